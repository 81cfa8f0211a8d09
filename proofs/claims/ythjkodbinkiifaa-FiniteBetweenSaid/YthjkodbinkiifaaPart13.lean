/- A part of the proof of a given statement: Sp23_C37, P23_16, Sp23_Other, P23_13, Sp23_C13, P23_4, P23_15, Law23_4, P23_3, Law23_3. No condition. -/
import Derived.Test.YthjkodbinkiifaaPart12
namespace Go.Proofs.Ythjkodbinkiifaa.Am23
open Go Go.Proofs.Ythjkodbinkiifaa.Am

/-- Shorter, or as long and ahead. -/
def slt (a b : ByteArray) : Bool := decide (a.size < b.size) || (decide (a.size = b.size) && Op.bytesLess a.toList b.toList)
def ahd (wd : Nat → ByteArray) (s : Nat) : Option Nat → Bool
  | none => true
  | some t => slt (wd s) (wd t)
def upd (ok : Nat → Bool) (wd : Nat → ByteArray) (s : Nat) (b : Option Nat) : Option Nat := if ok s && ahd wd s b then some s else b
/-- The state with the least word, of those that will do. -/
def pick (ok : Nat → Bool) (wd : Nat → ByteArray) : Nat → Nat → Option Nat → Option Nat
  | 0, _, b => b
  | d + 1, s, b => pick ok wd d (s + 1) (upd ok wd s b)
def bi : Option Nat → Int
  | none => -1
  | some s => s
theorem upd_ok {ok : Nat → Bool} {wd : Nat → ByteArray} {s : Nat} {b : Option Nat} (h : ok s = true) {v : Bool} (h2 : ahd wd s b = v) : upd ok wd s b = if v = true then some s else b := by
  unfold upd; rw [h, h2, Bool.true_and]
theorem upd_no {ok : Nat → Bool} {wd : Nat → ByteArray} {s : Nat} {b : Option Nat} (h : ok s = false) : upd ok wd s b = b := by
  unfold upd; rw [h, Bool.false_and]; rfl
theorem upd_some {ok : Nat → Bool} {wd : Nat → ByteArray} {s : Nat} {b : Option Nat} {t : Nat} (h : upd ok wd s b = some t) : (t = s ∧ ok s = true) ∨ b = some t := by
  unfold upd at h
  split at h
  · rename_i h2
    cases h
    exact .inl ⟨rfl, (Bool.and_eq_true _ _ ▸ h2).1⟩
  · exact .inr h
theorem pick_some {ok : Nat → Bool} {wd : Nat → ByteArray} : ∀ (d s : Nat) (b : Option Nat) {t : Nat}, pick ok wd d s b = some t → (s ≤ t ∧ t < s + d ∧ ok t = true) ∨ b = some t
  | 0, _, _, _, h => .inr h
  | d + 1, s, b, t, h => by
    rcases pick_some d (s + 1) _ h with ⟨h1, h2, h3⟩ | h1
    · exact .inl ⟨by omega, by omega, h3⟩
    · rcases upd_some h1 with ⟨rfl, h2⟩ | h2
      · exact .inl ⟨by omega, by omega, h2⟩
      · exact .inr h2
theorem pick_none {ok : Nat → Bool} {wd : Nat → ByteArray} : ∀ (d s : Nat) (b : Option Nat), pick ok wd d s b = none → b = none ∧ ∀ t, s ≤ t → t < s + d → ok t = false
  | 0, _, _, h => ⟨h, fun t h1 h2 => by omega⟩
  | d + 1, s, b, h => by
    obtain ⟨h1, h2⟩ := pick_none d (s + 1) _ h
    unfold upd at h1
    split at h1
    · cases h1
    · rename_i h3
      subst h1
      have h3 : ¬ (ok s && true) = true := h3
      rw [Bool.and_true] at h3
      refine ⟨rfl, fun t h4 h5 => ?_⟩
      by_cases he : t = s
      · subst he; simpa using h3
      · exact h2 t (by omega) (by omega)

def okB (k : Nat) (xs : List Int) (n : Nat) (U : List Bool) (s : Nat) : Bool := U.getD s false && (bfs k xs n s false).met.getD s false
def wd0 (k : Nat) (xs : List Int) (n a : Nat) (s : Nat) : ByteArray := lw ((bfs k xs n a true).ws.getD s [])
def okE (k : Nat) (xs : List Int) (bs : List Bool) (a : Nat) (s : Nat) : Bool := bs.getD s false && (bfs k xs bs.length a true).met.getD s false
noncomputable def bestV (k : Nat) (xs : List Int) (bs : List Bool) : Option Nat := pick (okB k xs bs.length (useL k xs bs)) (wd0 k xs bs.length 0) bs.length 0 none
def endV (k : Nat) (xs : List Int) (bs : List Bool) (a : Nat) : Option Nat := pick (okE k xs bs a) (wd0 k xs bs.length a) bs.length 0 none
/-- Is the language finite? Else the three words. -/
noncomputable def boundV (k : Nat) (xs : List Int) (bs : List Bool) : Bool × ByteArray × ByteArray × ByteArray :=
  match bestV k xs bs with
  | none => (true, ByteArray.empty, ByteArray.empty, ByteArray.empty)
  | some b => (false, wd0 k xs bs.length 0 b, lw ((bfs k xs bs.length b false).ws.getD b []), wd0 k xs bs.length b ((endV k xs bs b).getD 0))

theorem slt_lt {a b : ByteArray} (h : (a.size : Int) < (b.size : Int)) : slt a b = true := by
  unfold slt; rw [decide_eq_true (by omega)]; rfl
theorem slt_eq {a b : ByteArray} (h2 : ((a.size : Int) == (b.size : Int)) = true) : slt a b = Op.bytesLess a.toList b.toList := by
  unfold slt
  have : a.size = b.size := by have := of_decide_eq_true (p := (a.size : Int) = b.size) (by simpa using h2); omega
  rw [decide_eq_false (by omega), Bool.false_or, decide_eq_true this, Bool.true_and]
theorem slt_gt {a b : ByteArray} (h : ¬ (a.size : Int) < (b.size : Int)) (h2 : ((a.size : Int) == (b.size : Int)) = false) : slt a b = false := by
  unfold slt
  have : a.size ≠ b.size := fun e => by rw [e] at h2; simp at h2
  rw [decide_eq_false (by omega), Bool.false_or, decide_eq_false this, Bool.false_and]

theorem loop37a {k : Nat} {xs : List Int} {bs : List Bool} (hG : Good k xs bs) {H0 : AHeap} {prot : Nat} {vN vA x4 x5 x3 : Value} {o4 o5 : Nat} {U : List Bool} (hU : U.length = bs.length) : ∀ (d i : Nat) (b : Option Nat) (H : AHeap), i + d = bs.length → (∀ t, b = some t → t < bs.length) →
    H[H0.length]? = some (bx k vN vA) → IsA H xs bs vN vA → H0.length < H.length → (∃ p o l, x3 = .pointer (some ⟨p, o, some l⟩)) →
    Own H 4 1 x4 (some o4) bs.length (bll U) → Own H 9 1 x5 (some o5) bs.length (sl (bfs k xs bs.length 0 true).ws) →
    ∃ H', lpInf (lpOf cfg a37 0 prot H0) ([.pointer (some ⟨H0.length, 0, some 3⟩), x3, x4, x5, .int .i64 (bi b), .int .i64 bs.length, .int .i64 i], H) =
      some (.exit 0, [.pointer (some ⟨H0.length, 0, some 3⟩), x3, x5, .int .i64 (bi (pick (okB k xs bs.length U) (wd0 k xs bs.length 0) d i b))], H') ∧ Stay none H H'
  | 0, i, b, H, hi, hb, hbx, hA, hH, ⟨p, o, l, hx3⟩, w4, w5 => by
    obtain ⟨a4, c4, rfl⟩ := w4.len
    obtain ⟨a5, c5, rfl⟩ := w5.len
    subst hx3
    exact ⟨H, lp_last (f37_L0_7 (by omega)), Stay.refl _ _⟩
  | d + 1, i, b, H, hi, hb, hbx, hA, hH, ⟨p, o, l, hx3⟩, w4, w5 => by
    have hn5 := hG.n5
    have hin : i < bs.length := by omega
    have hok := bfs_ok hG (show 0 < bs.length by omega) true
    obtain ⟨_, e, m1, m2⟩ := own_at T23 w4 (bl_at (show i < U.length by omega))
    cases e
    have fi : Fit .i64 ((i : Int) + 1) := fit64 (by omega) (by omega)
    obtain ⟨_, _, _, gx⟩ := fld3 hbx
    by_cases hu : U.getD i false = true
    · obtain ⟨x, y, pp, q, c, dd, H2, r1, rfl, rfl, r2, r3, r4, r5⟩ := c65 hG hin false H0.length H hA
      have hok2 := bfs_ok hG hin false
      have v4 := w4.stay r4 (fun id _ h => by cases h)
      have v5 := w5.stay r4 (fun id _ h => by cases h)
      obtain ⟨_, e, p1, p2⟩ := own_at T23 r3 (bl_at (show i < (bfs k xs bs.length i false).met.length by rw [hok2.lm]; exact hin))
      cases e
      have step : ∀ b' : Option Nat, b' = upd (okB k xs bs.length U) (wd0 k xs bs.length 0) i b → (∃ z, lpOf cfg a37 0 prot H0 ([.pointer (some ⟨H0.length, 0, some 3⟩), x3, x4, x5, .int .i64 (bi b), .int .i64 bs.length, .int .i64 i], H) = some (.inl z) ∧ z = ([.pointer (some ⟨H0.length, 0, some 3⟩), x3, x4, x5, .int .i64 (bi b'), .int .i64 bs.length, .int .i64 ((i : Int) + 1)], H2)) →
          ∃ H', lpInf (lpOf cfg a37 0 prot H0) ([.pointer (some ⟨H0.length, 0, some 3⟩), x3, x4, x5, .int .i64 (bi b), .int .i64 bs.length, .int .i64 i], H) =
            some (.exit 0, [.pointer (some ⟨H0.length, 0, some 3⟩), x3, x5, .int .i64 (bi (pick (okB k xs bs.length U) (wd0 k xs bs.length 0) (d + 1) i b))], H') ∧ Stay none H H' := fun b' hb' hz => by
        obtain ⟨z, hz1, rfl⟩ := hz
        obtain ⟨H', u1, u2⟩ := loop37a hG (prot := prot) (x3 := x3) hU d (i + 1) b' H2 (by omega) (fun t ht => by rw [hb'] at ht; rcases upd_some ht with ⟨rfl, _⟩ | h2; exact hin; exact hb t h2) (by rw [r4.2 _ hH (by simp)]; exact hbx) (hA.stay r4) (by omega) ⟨p, o, l, hx3⟩ v4 v5
        exact ⟨H', lp_next hz1 (by rw [pick, ← hb']; exact u1), r4.trans u2⟩
      obtain ⟨aN, cN, rfl⟩ := hA.n.len
      obtain ⟨aA, cA, rfl⟩ := hA.a.len
      obtain ⟨a4, c4, rfl⟩ := w4.len
      obtain ⟨a5, c5, rfl⟩ := w5.len
      subst hx3
      rw [hu] at m2
      by_cases hm : (bfs k xs bs.length i false).met.getD i false = true
      · rw [hm] at p2
        have hokt : okB k xs bs.length U i = true := by unfold okB; rw [hu, hm]; rfl
        cases b with
        | none => exact step (some i) ((upd_ok (b := none) (wd := wd0 k xs bs.length 0) hokt (v := true) rfl).symm) ⟨_, f37_L0_0 (by omega) m1 m2 rfl gx r1 p1 p2 rfl (by decide) fi, rfl⟩
        | some t =>
          have ht := hb t rfl
          obtain ⟨_, e, q1, q2⟩ := own_at T43 v5 (sl_at (show i < (bfs k xs bs.length 0 true).ws.length by rw [hok.lw]; exact hin))
          cases e
          obtain ⟨_, e, y1, y2⟩ := own_at T43 v5 (sl_at (show t < (bfs k xs bs.length 0 true).ws.length by rw [hok.lw]; exact ht))
          cases e
          have hbt : ¬ (bi (some t) < 0) := by simp only [bi]; omega
          by_cases h1 : ((wd0 k xs bs.length 0 i).size : Int) < ((wd0 k xs bs.length 0 t).size : Int)
          · exact step (some i) ((upd_ok (b := some t) (wd := wd0 k xs bs.length 0) hokt (v := true) (slt_lt h1)).symm) ⟨_, f37_L0_1 (by omega) m1 m2 rfl gx r1 p1 p2 rfl hbt q1 q2 y1 y2 h1 fi, rfl⟩
          · cases h2 : (((wd0 k xs bs.length 0 i).size : Int) == ((wd0 k xs bs.length 0 t).size : Int)) with
            | true =>
              have hs := slt_eq h2
              cases h3 : Op.bytesLess (wd0 k xs bs.length 0 i).toList (wd0 k xs bs.length 0 t).toList with
              | true => exact step (some i) ((upd_ok (b := some t) (wd := wd0 k xs bs.length 0) hokt (v := true) (hs.trans h3)).symm) ⟨_, f37_L0_2 (by omega) m1 m2 rfl gx r1 p1 p2 rfl hbt q1 q2 y1 y2 h1 q1 q2 y1 y2 h2 q1 q2 y1 y2 h3 fi, rfl⟩
              | false => exact step (some t) ((upd_ok (b := some t) (wd := wd0 k xs bs.length 0) hokt (v := false) (hs.trans h3)).symm) ⟨_, f37_L0_3 (by omega) m1 m2 rfl gx r1 p1 p2 rfl hbt q1 q2 y1 y2 h1 q1 q2 y1 y2 h2 q1 q2 y1 y2 h3 fi, rfl⟩
            | false => exact step (some t) ((upd_ok (b := some t) (wd := wd0 k xs bs.length 0) hokt (v := false) (slt_gt h1 h2)).symm) ⟨_, f37_L0_4 (by omega) m1 m2 rfl gx r1 p1 p2 rfl hbt q1 q2 y1 y2 h1 q1 q2 y1 y2 h2 fi, rfl⟩
      · have hm : (bfs k xs bs.length i false).met.getD i false = false := by simpa using hm
        rw [hm] at p2
        exact step b (by unfold upd okB; rw [hm, Bool.and_false, Bool.false_and]; rfl) ⟨_, f37_L0_5 (by omega) m1 m2 rfl gx r1 p1 p2 rfl fi, rfl⟩
    · have hu : U.getD i false = false := by simpa using hu
      obtain ⟨H', u1, u2⟩ := loop37a hG (prot := prot) (x3 := x3) hU d (i + 1) b H (by omega) hb hbx hA hH ⟨p, o, l, hx3⟩ w4 w5
      obtain ⟨a4, c4, rfl⟩ := w4.len
      obtain ⟨a5, c5, rfl⟩ := w5.len
      subst hx3
      rw [hu] at m2
      refine ⟨H', lp_next (f37_L0_6 (by omega) m1 m2 rfl fi) ?_, u2⟩
      have : upd (okB k xs bs.length U) (wd0 k xs bs.length 0) i b = b := by unfold upd okB; rw [hu, Bool.false_and, Bool.false_and]; rfl
      rw [pick, this]
      exact u1

theorem loop37b {k a : Nat} {xs : List Int} {bs : List Bool} (hG : Good k xs bs) (ha : a < bs.length) {H0 H : AHeap} {prot : Nat} {vN vA x3 x5 x11 x13 x14 : Value} {x7 : Int} {o13 o14 : Nat} (hbx : H[H0.length]? = some (bx k vN vA)) (hA : IsA H xs bs vN vA)
    (h3 : ∃ p o l, x3 = .pointer (some ⟨p, o, some l⟩)) (h5 : ∃ p n c, x5 = .slice p n c) (h11 : ∃ p n c, x11 = .slice p n c)
    (w13 : Own H 9 1 x13 (some o13) bs.length (sl (bfs k xs bs.length a true).ws)) (w14 : Own H 4 1 x14 (some o14) bs.length (bll (bfs k xs bs.length a true).met)) : ∀ (d i : Nat) (b : Option Nat), i + d = bs.length → (∀ t, b = some t → t < bs.length) →
    lpInf (lpOf cfg a37 1 prot H0) ([.pointer (some ⟨H0.length, 0, some 3⟩), x3, x5, .int .i64 x7, x11, x13, x14, .int .i64 (bi b), .int .i64 bs.length, .int .i64 i], H) =
      some (.exit 2, [x3, x5, .int .i64 x7, x11, x13, .int .i64 (bi (pick (okE k xs bs a) (wd0 k xs bs.length a) d i b))], H)
  | 0, i, b, hi, hb => by
    obtain ⟨p, o, l, rfl⟩ := h3
    obtain ⟨_, _, _, rfl⟩ := h5
    obtain ⟨_, _, _, rfl⟩ := h11
    obtain ⟨_, _, rfl⟩ := w13.len
    obtain ⟨_, _, rfl⟩ := w14.len
    exact lp_last (f37_L1_7 (by omega))
  | d + 1, i, b, hi, hb => by
    have hn5 := hG.n5
    have hin : i < bs.length := by omega
    have hok := bfs_ok hG ha true
    have ih := fun b' hb' => loop37b hG ha (prot := prot) hbx hA h3 h5 h11 w13 w14 (x7 := x7) d (i + 1) b' (by omega) hb'
    obtain ⟨idA, LA, n1, n2⟩ := rd_at T23 hA.a (bl_at hin)
    have fi : Fit .i64 ((i : Int) + 1) := fit64 (by omega) (by omega)
    obtain ⟨_, e, p1, p2⟩ := own_at T23 w14 (bl_at (show i < (bfs k xs bs.length a true).met.length by rw [hok.lm]; exact hin))
    cases e
    have step : ∀ b' : Option Nat, b' = upd (okE k xs bs a) (wd0 k xs bs.length a) i b → lpOf cfg a37 1 prot H0 ([.pointer (some ⟨H0.length, 0, some 3⟩), x3, x5, .int .i64 x7, x11, x13, x14, .int .i64 (bi b), .int .i64 bs.length, .int .i64 i], H) = some (.inl ([.pointer (some ⟨H0.length, 0, some 3⟩), x3, x5, .int .i64 x7, x11, x13, x14, .int .i64 (bi b'), .int .i64 bs.length, .int .i64 ((i : Int) + 1)], H)) →
        lpInf (lpOf cfg a37 1 prot H0) ([.pointer (some ⟨H0.length, 0, some 3⟩), x3, x5, .int .i64 x7, x11, x13, x14, .int .i64 (bi b), .int .i64 bs.length, .int .i64 i], H) =
          some (.exit 2, [x3, x5, .int .i64 x7, x11, x13, .int .i64 (bi (pick (okE k xs bs a) (wd0 k xs bs.length a) (d + 1) i b))], H) := fun b' hb' hz => by
      have := ih b' (fun t ht => by rw [hb'] at ht; rcases upd_some ht with ⟨rfl, _⟩ | h2; exact hin; exact hb t h2)
      exact lp_next hz (by rw [pick, ← hb']; exact this)
    obtain ⟨p, o, l, rfl⟩ := h3
    obtain ⟨_, _, _, rfl⟩ := h5
    obtain ⟨_, _, _, rfl⟩ := h11
    have w13' := w13
    obtain ⟨_, _, rfl⟩ := w13.len
    obtain ⟨_, _, rfl⟩ := w14.len
    obtain ⟨aN, cN, rfl⟩ := hA.n.len
    obtain ⟨aA, cA, rfl⟩ := hA.a.len
    obtain ⟨_, _, g2, _⟩ := fld3 hbx
    by_cases hu : bs.getD i false = true
    · rw [hu] at n2
      by_cases hm : (bfs k xs bs.length a true).met.getD i false = true
      · rw [hm] at p2
        have hokt : okE k xs bs a i = true := by unfold okE; rw [hu, hm]; rfl
        cases b with
        | none => exact step (some i) ((upd_ok (b := none) (wd := wd0 k xs bs.length a) hokt (v := true) rfl).symm) (f37_L1_0 (by omega) g2 n1 n2 rfl p1 p2 rfl (by decide) fi)
        | some t =>
          have ht := hb t rfl
          obtain ⟨_, e, q1, q2⟩ := own_at T43 w13' (sl_at (show i < (bfs k xs bs.length a true).ws.length by rw [hok.lw]; exact hin))
          cases e
          obtain ⟨_, e, y1, y2⟩ := own_at T43 w13' (sl_at (show t < (bfs k xs bs.length a true).ws.length by rw [hok.lw]; exact ht))
          cases e
          have hbt : ¬ (bi (some t) < 0) := by simp only [bi]; omega
          by_cases h1 : ((wd0 k xs bs.length a i).size : Int) < ((wd0 k xs bs.length a t).size : Int)
          · exact step (some i) ((upd_ok (b := some t) (wd := wd0 k xs bs.length a) hokt (v := true) (slt_lt h1)).symm) (f37_L1_1 (by omega) g2 n1 n2 rfl p1 p2 rfl hbt q1 q2 y1 y2 h1 fi)
          · cases h2 : (((wd0 k xs bs.length a i).size : Int) == ((wd0 k xs bs.length a t).size : Int)) with
            | true =>
              have hs := slt_eq h2
              cases h3 : Op.bytesLess (wd0 k xs bs.length a i).toList (wd0 k xs bs.length a t).toList with
              | true => exact step (some i) ((upd_ok (b := some t) (wd := wd0 k xs bs.length a) hokt (v := true) (hs.trans h3)).symm) (f37_L1_2 (by omega) g2 n1 n2 rfl p1 p2 rfl hbt q1 q2 y1 y2 h1 q1 q2 y1 y2 h2 q1 q2 y1 y2 h3 fi)
              | false => exact step (some t) ((upd_ok (b := some t) (wd := wd0 k xs bs.length a) hokt (v := false) (hs.trans h3)).symm) (f37_L1_3 (by omega) g2 n1 n2 rfl p1 p2 rfl hbt q1 q2 y1 y2 h1 q1 q2 y1 y2 h2 q1 q2 y1 y2 h3 fi)
            | false => exact step (some t) ((upd_ok (b := some t) (wd := wd0 k xs bs.length a) hokt (v := false) (slt_gt h1 h2)).symm) (f37_L1_4 (by omega) g2 n1 n2 rfl p1 p2 rfl hbt q1 q2 y1 y2 h1 q1 q2 y1 y2 h2 fi)
      · have hm : (bfs k xs bs.length a true).met.getD i false = false := by simpa using hm
        rw [hm] at p2
        exact step b ((upd_no (by unfold okE; rw [hm, Bool.and_false])).symm) (f37_L1_5 (by omega) g2 n1 n2 rfl p1 p2 rfl fi)
    · have hu : bs.getD i false = false := by simpa using hu
      rw [hu] at n2
      exact step b ((upd_no (by unfold okE; rw [hu, Bool.false_and])).symm) (f37_L1_6 (by omega) g2 n1 n2 rfl fi)

/-- Where there is a best state there is an end. -/
theorem best_end {k : Nat} {xs : List Int} {bs : List Bool} (hG : Good k xs bs) {b : Nat} (h : bestV k xs bs = some b) : b < bs.length ∧ okB k xs bs.length (useL k xs bs) b = true ∧ ∃ e, endV k xs bs b = some e ∧ e < bs.length ∧ okE k xs bs b e = true := by
  rcases pick_some _ _ _ h with ⟨_, h2, h3⟩ | h1
  · have hb : b < bs.length := by omega
    refine ⟨hb, h3, ?_⟩
    have hu : (useL k xs bs).getD b false = true := by unfold okB at h3; exact (Bool.and_eq_true _ _ ▸ h3).1
    rw [useL_at hb] at hu
    have hh : (hopeL k xs bs).getD b false = true := (Bool.and_eq_true _ _ ▸ hu).2
    rw [List.getD_eq_getElem?_getD, List.getElem?_eq_getElem (by rw [hopeL_len]; exact hb), Option.getD_some, hopeL_get] at hh
    obtain ⟨w, hw, ha⟩ := @of_decide_eq_true _ (Classical.propDecidable _) hh
    cases he : endV k xs bs b with
    | some e =>
      rcases pick_some _ _ _ he with ⟨_, h5, h6⟩ | h5
      · exact ⟨e, rfl, by omega, h6⟩
      · cases h5
    | none =>
      obtain ⟨_, h5⟩ := pick_none _ _ _ he
      have hl := go_lt hG w b hw hb
      have := h5 _ (Nat.zero_le _) (by omega : go k xs b w < 0 + bs.length)
      unfold okE at this
      rw [ha, Bool.true_and, (bfs_met hG hb true _).2 ⟨w, hw, rfl, fun h => by cases h⟩] at this
      cases this
  · cases h1
end Go.Proofs.Ythjkodbinkiifaa.Am23
set_option linter.unusedVariables false
open Go Go.Proofs.Ythjkodbinkiifaa.Am
namespace Go.Proofs.Ythjkodbinkiifaa.Am23
theorem f16_F_0 {x0a : Int} {x0ba : Option Addr} {x0bn : Nat} {x0bc : Nat} {x0ca : Option Addr} {x0cn : Nat} {x0cc : Nat} {H : AHeap} {prot : Nat} {x6 : Int} {x8a : Option Addr} {x8n : Nat} {x8c : Nat} {H1 : AHeap} {z2p : Nat} {z2o : Nat} {z2l : Nat} {z3p : Nat} {z3o : Nat} {z3l : Nat} {H2 : AHeap} {x28a : Int} {x28ba : Option Addr} {x28bn : Nat} {x28bc : Nat} {x28ca : Option Addr} {x28cn : Nat} {x28cc : Nat} {H3 : AHeap} {wa : Int} {wba : Option Addr} {wbn : Nat} {wbc : Nat} {wca : Option Addr} {wcn : Nat} {wcc : Nat} (rv : Value) (rH : AHeap) (h1 : [Value.int IntKind.i64 x0a, Value.slice x0ba x0bn x0bc, Value.slice x0ca x0cn x0cc].all isCell = true) (h2 : getCells (H ++ [AObj.cells [Value.int IntKind.i64 x0a, Value.slice x0ba x0bn x0bc, Value.slice x0ca x0cn x0cc] 25 [Value.int IntKind.i64 x0a, Value.slice x0ba x0bn x0bc, Value.slice x0ca x0cn x0cc].length OMode.var] ++ [AObj.cells [Value.int IntKind.i64 0, Value.slice none 0 0, Value.slice none 0 0] 25 [Value.int IntKind.i64 0, Value.slice none 0 0, Value.slice none 0 0].length OMode.var]) (List.length H) [Value.int IntKind.i64 x0a, Value.slice x0ba x0bn x0bc, Value.slice x0ca x0cn x0cc].length (0 + 0) 1 = some [Value.int IntKind.i64 x6]) (h3 : getCells (H ++ [AObj.cells [Value.int IntKind.i64 x0a, Value.slice x0ba x0bn x0bc, Value.slice x0ca x0cn x0cc] 25 [Value.int IntKind.i64 x0a, Value.slice x0ba x0bn x0bc, Value.slice x0ca x0cn x0cc].length OMode.var] ++ [AObj.cells [Value.int IntKind.i64 0, Value.slice none 0 0, Value.slice none 0 0] 25 [Value.int IntKind.i64 0, Value.slice none 0 0, Value.slice none 0 0].length OMode.var]) (List.length H) [Value.int IntKind.i64 x0a, Value.slice x0ba x0bn x0bc, Value.slice x0ca x0cn x0cc].length (0 + 1) 1 = some [Value.slice x8a x8n x8c]) (h4 : [Value.int IntKind.i64 x6, Value.slice x8a x8n x8c, Value.slice none 0 0].length = 3) (h5 : setCells (H ++ [AObj.cells [Value.int IntKind.i64 x0a, Value.slice x0ba x0bn x0bc, Value.slice x0ca x0cn x0cc] 25 [Value.int IntKind.i64 x0a, Value.slice x0ba x0bn x0bc, Value.slice x0ca x0cn x0cc].length OMode.var] ++ [AObj.cells [Value.int IntKind.i64 0, Value.slice none 0 0, Value.slice none 0 0] 25 [Value.int IntKind.i64 0, Value.slice none 0 0, Value.slice none 0 0].length OMode.var] ++ [AObj.cells [Value.int IntKind.i64 0, Value.slice none 0 0, Value.slice none 0 0] 25 [Value.int IntKind.i64 0, Value.slice none 0 0, Value.slice none 0 0].length OMode.var]) (List.length H) (List.length (H ++ [AObj.cells [Value.int IntKind.i64 x0a, Value.slice x0ba x0bn x0bc, Value.slice x0ca x0cn x0cc] 25 [Value.int IntKind.i64 x0a, Value.slice x0ba x0bn x0bc, Value.slice x0ca x0cn x0cc].length OMode.var] ++ [AObj.cells [Value.int IntKind.i64 0, Value.slice none 0 0, Value.slice none 0 0] 25 [Value.int IntKind.i64 0, Value.slice none 0 0, Value.slice none 0 0].length OMode.var])) [Value.int IntKind.i64 0, Value.slice none 0 0, Value.slice none 0 0].length 0 [Value.int IntKind.i64 x6, Value.slice x8a x8n x8c, Value.slice none 0 0] = some H1) (h6 : lpInf (lpOf cfg a16 0 prot H) ([Value.pointer (some { block := List.length H, off := 0, spot := some [Value.int IntKind.i64 x0a, Value.slice x0ba x0bn x0bc, Value.slice x0ca x0cn x0cc].length }), Value.pointer (some { block := List.length (H ++ [AObj.cells [Value.int IntKind.i64 x0a, Value.slice x0ba x0bn x0bc, Value.slice x0ca x0cn x0cc] 25 [Value.int IntKind.i64 x0a, Value.slice x0ba x0bn x0bc, Value.slice x0ca x0cn x0cc].length OMode.var]), off := 0, spot := some [Value.int IntKind.i64 0, Value.slice none 0 0, Value.slice none 0 0].length }), Value.pointer (some { block := List.length (H ++ [AObj.cells [Value.int IntKind.i64 x0a, Value.slice x0ba x0bn x0bc, Value.slice x0ca x0cn x0cc] 25 [Value.int IntKind.i64 x0a, Value.slice x0ba x0bn x0bc, Value.slice x0ca x0cn x0cc].length OMode.var] ++ [AObj.cells [Value.int IntKind.i64 0, Value.slice none 0 0, Value.slice none 0 0] 25 [Value.int IntKind.i64 0, Value.slice none 0 0, Value.slice none 0 0].length OMode.var]), off := 0, spot := some [Value.int IntKind.i64 0, Value.slice none 0 0, Value.slice none 0 0].length }), Value.int IntKind.i64 0], H1) = some (Ex.exit 0, [Value.pointer (some { block := z2p, off := z2o, spot := some z2l }), Value.pointer (some { block := z3p, off := z3o, spot := some z3l })], H2)) (h7 : getCells H2 z3p z3l z3o 3 = some [Value.int IntKind.i64 x28a, Value.slice x28ba x28bn x28bc, Value.slice x28ca x28cn x28cc]) (h8 : [Value.int IntKind.i64 x28a, Value.slice x28ba x28bn x28bc, Value.slice x28ca x28cn x28cc].length = 3) (h9 : setCells H2 (List.length H) z2p z2l z2o [Value.int IntKind.i64 x28a, Value.slice x28ba x28bn x28bc, Value.slice x28ca x28cn x28cc] = some H3) (h10 : getCells H3 z2p z2l z2o 3 = some [Value.int IntKind.i64 wa, Value.slice wba wbn wbc, Value.slice wca wcn wcc]) (h11 : pfin a16 H [Value.agg { toList := [Value.int IntKind.i64 wa, Value.slice wba wbn wbc, Value.slice wca wcn wcc] }] H3 = (rv, rH)) : callInf cfg 16 [.agg #[.int .i64 x0a, .slice x0ba x0bn x0bc, .slice x0ca x0cn x0cc]] prot H = some (rv, rH) :=
  fn_of' a16 [.e, .e, .v (.int .i64 x6), .v (.slice x8a x8n x8c), .e, .e, .h H1, .lo (.exit 0, [.pointer (some ⟨z2p, z2o, some z2l⟩), .pointer (some ⟨z3p, z3o, some z3l⟩)], H2), .v (.agg #[.int .i64 x28a, .slice x28ba x28bn x28bc, .slice x28ca x28cn x28cc]), .h H3, .v (.agg #[.int .i64 wa, .slice wba wbn wbc, .slice wca wcn wcc])] (([Value.int IntKind.i64 x0a, Value.slice x0ba x0bn x0bc, Value.slice x0ca x0cn x0cc].all isCell = true) ∧ (getCells (H ++ [AObj.cells [Value.int IntKind.i64 x0a, Value.slice x0ba x0bn x0bc, Value.slice x0ca x0cn x0cc] 25 [Value.int IntKind.i64 x0a, Value.slice x0ba x0bn x0bc, Value.slice x0ca x0cn x0cc].length OMode.var] ++ [AObj.cells [Value.int IntKind.i64 0, Value.slice none 0 0, Value.slice none 0 0] 25 [Value.int IntKind.i64 0, Value.slice none 0 0, Value.slice none 0 0].length OMode.var]) (List.length H) [Value.int IntKind.i64 x0a, Value.slice x0ba x0bn x0bc, Value.slice x0ca x0cn x0cc].length (0 + 0) 1 = some [Value.int IntKind.i64 x6]) ∧ (getCells (H ++ [AObj.cells [Value.int IntKind.i64 x0a, Value.slice x0ba x0bn x0bc, Value.slice x0ca x0cn x0cc] 25 [Value.int IntKind.i64 x0a, Value.slice x0ba x0bn x0bc, Value.slice x0ca x0cn x0cc].length OMode.var] ++ [AObj.cells [Value.int IntKind.i64 0, Value.slice none 0 0, Value.slice none 0 0] 25 [Value.int IntKind.i64 0, Value.slice none 0 0, Value.slice none 0 0].length OMode.var]) (List.length H) [Value.int IntKind.i64 x0a, Value.slice x0ba x0bn x0bc, Value.slice x0ca x0cn x0cc].length (0 + 1) 1 = some [Value.slice x8a x8n x8c]) ∧ ([Value.int IntKind.i64 x6, Value.slice x8a x8n x8c, Value.slice none 0 0].length = 3) ∧ (setCells (H ++ [AObj.cells [Value.int IntKind.i64 x0a, Value.slice x0ba x0bn x0bc, Value.slice x0ca x0cn x0cc] 25 [Value.int IntKind.i64 x0a, Value.slice x0ba x0bn x0bc, Value.slice x0ca x0cn x0cc].length OMode.var] ++ [AObj.cells [Value.int IntKind.i64 0, Value.slice none 0 0, Value.slice none 0 0] 25 [Value.int IntKind.i64 0, Value.slice none 0 0, Value.slice none 0 0].length OMode.var] ++ [AObj.cells [Value.int IntKind.i64 0, Value.slice none 0 0, Value.slice none 0 0] 25 [Value.int IntKind.i64 0, Value.slice none 0 0, Value.slice none 0 0].length OMode.var]) (List.length H) (List.length (H ++ [AObj.cells [Value.int IntKind.i64 x0a, Value.slice x0ba x0bn x0bc, Value.slice x0ca x0cn x0cc] 25 [Value.int IntKind.i64 x0a, Value.slice x0ba x0bn x0bc, Value.slice x0ca x0cn x0cc].length OMode.var] ++ [AObj.cells [Value.int IntKind.i64 0, Value.slice none 0 0, Value.slice none 0 0] 25 [Value.int IntKind.i64 0, Value.slice none 0 0, Value.slice none 0 0].length OMode.var])) [Value.int IntKind.i64 0, Value.slice none 0 0, Value.slice none 0 0].length 0 [Value.int IntKind.i64 x6, Value.slice x8a x8n x8c, Value.slice none 0 0] = some H1) ∧ (lpInf (lpOf cfg a16 0 prot H) ([Value.pointer (some { block := List.length H, off := 0, spot := some [Value.int IntKind.i64 x0a, Value.slice x0ba x0bn x0bc, Value.slice x0ca x0cn x0cc].length }), Value.pointer (some { block := List.length (H ++ [AObj.cells [Value.int IntKind.i64 x0a, Value.slice x0ba x0bn x0bc, Value.slice x0ca x0cn x0cc] 25 [Value.int IntKind.i64 x0a, Value.slice x0ba x0bn x0bc, Value.slice x0ca x0cn x0cc].length OMode.var]), off := 0, spot := some [Value.int IntKind.i64 0, Value.slice none 0 0, Value.slice none 0 0].length }), Value.pointer (some { block := List.length (H ++ [AObj.cells [Value.int IntKind.i64 x0a, Value.slice x0ba x0bn x0bc, Value.slice x0ca x0cn x0cc] 25 [Value.int IntKind.i64 x0a, Value.slice x0ba x0bn x0bc, Value.slice x0ca x0cn x0cc].length OMode.var] ++ [AObj.cells [Value.int IntKind.i64 0, Value.slice none 0 0, Value.slice none 0 0] 25 [Value.int IntKind.i64 0, Value.slice none 0 0, Value.slice none 0 0].length OMode.var]), off := 0, spot := some [Value.int IntKind.i64 0, Value.slice none 0 0, Value.slice none 0 0].length }), Value.int IntKind.i64 0], H1) = some (Ex.exit 0, [Value.pointer (some { block := z2p, off := z2o, spot := some z2l }), Value.pointer (some { block := z3p, off := z3o, spot := some z3l })], H2)) ∧ (getCells H2 z3p z3l z3o 3 = some [Value.int IntKind.i64 x28a, Value.slice x28ba x28bn x28bc, Value.slice x28ca x28cn x28cc]) ∧ ([Value.int IntKind.i64 x28a, Value.slice x28ba x28bn x28bc, Value.slice x28ca x28cn x28cc].length = 3) ∧ (setCells H2 (List.length H) z2p z2l z2o [Value.int IntKind.i64 x28a, Value.slice x28ba x28bn x28bc, Value.slice x28ca x28cn x28cc] = some H3) ∧ (getCells H3 z2p z2l z2o 3 = some [Value.int IntKind.i64 wa, Value.slice wba wbn wbc, Value.slice wca wcn wcc]) ∧ (pfin a16 H [Value.agg { toList := [Value.int IntKind.i64 wa, Value.slice wba wbn wbc, Value.slice wca wcn wcc] }] H3 = (rv, rH))) (by kernel_rfl) ⟨h1, h2, h3, h4, h5, h6, h7, h8, h9, h10, h11⟩ rfl
theorem f16_L0_0 {x1p : Nat} {x1o : Nat} {x1l : Nat} {x2p : Nat} {x2o : Nat} {x2l : Nat} {x3p : Nat} {x3o : Nat} {x3l : Nat} {x4 : Int} {H0 : AHeap} {prot : Nat} {H : AHeap} {x12a : Option Addr} {x12n : Nat} {x12c : Nat} {x18a : Option Addr} {x18n : Nat} {x18c : Nat} {x20a : Option Addr} {x20n : Nat} {x20c : Nat} {x22p : Nat} {x22o : Nat} {x22l : Nat} {x23 : Bool} {x26a : Option Addr} {x26n : Nat} {x26c : Nat} {H2 : AHeap} {H3 : AHeap} (h1 : getCells H x1p x1l (x1o + 2) 1 = some [Value.slice x12a x12n x12c]) (h2 : x4 < (↑x12n : Int)) (h3 : getCells H x3p x3l (x3o + 2) 1 = some [Value.slice x18a x18n x18c]) (h4 : getCells H x1p x1l (x1o + 2) 1 = some [Value.slice x20a x20n x20c]) (h5 : aindexAddr cfg.P 23 (Value.slice x20a x20n x20c) (Value.int IntKind.i64 x4) = some (Value.pointer (some { block := x22p, off := x22o, spot := some x22l }))) (h6 : getCells H x22p x22l x22o 1 = some [Value.bool x23]) (h7 : aappend cfg.P (List.length H0) false 23 23 (Value.slice x18a x18n x18c) (Value.slice (some { block := List.length H, off := 0, spot := some (1 * 1) }) 1 1) (H ++ [AObj.cells [Value.bool !x23] 4 [Value.bool !x23].length OMode.row]) = some (Value.slice x26a x26n x26c, H2)) (h8 : [Value.slice x26a x26n x26c].length = 1) (h9 : setCells H2 (List.length H0) x3p x3l (x3o + 2) [Value.slice x26a x26n x26c] = some H3) (h10 : Fit IntKind.i64 (x4 + 1)) : lpOf cfg a16 0 prot H0 ([.pointer (some ⟨x1p, x1o, some x1l⟩), .pointer (some ⟨x2p, x2o, some x2l⟩), .pointer (some ⟨x3p, x3o, some x3l⟩), .int .i64 x4], H) = some (Sum.inl ([Value.pointer (some { block := x1p, off := x1o, spot := some x1l }), Value.pointer (some { block := x2p, off := x2o, spot := some x2l }), Value.pointer (some { block := x3p, off := x3o, spot := some x3l }), Value.int IntKind.i64 (x4 + 1)], H3)) :=
  lp_of [.v (.slice x12a x12n x12c), .e, .e, .b true, .v (.slice x18a x18n x18c), .v (.slice x20a x20n x20c), .v (.pointer (some ⟨x22p, x22o, some x22l⟩)), .v (.bool x23), .e, .e, .r (.slice x26a x26n x26c) H2, .h H3, .e] (fun e => (getCells H x1p x1l (x1o + 2) 1 = some [Value.slice x12a x12n x12c]) ∧ (decide (x4 < (↑x12n : Int)) = true) ∧ (getCells H x3p x3l (x3o + 2) 1 = some [Value.slice x18a x18n x18c]) ∧ (getCells H x1p x1l (x1o + 2) 1 = some [Value.slice x20a x20n x20c]) ∧ (aindexAddr cfg.P 23 (Value.slice x20a x20n x20c) (Value.int IntKind.i64 x4) = some (Value.pointer (some { block := x22p, off := x22o, spot := some x22l }))) ∧ (getCells H x22p x22l x22o 1 = some [Value.bool x23]) ∧ (aappend cfg.P (List.length H0) false 23 23 (Value.slice x18a x18n x18c) (Value.slice (some { block := List.length H, off := 0, spot := some (1 * 1) }) 1 1) (H ++ [AObj.cells [Value.bool !x23] 4 [Value.bool !x23].length OMode.row]) = some (Value.slice x26a x26n x26c, H2)) ∧ ([Value.slice x26a x26n x26c].length = 1) ∧ (setCells H2 (List.length H0) x3p x3l (x3o + 2) [Value.slice x26a x26n x26c] = some H3) ∧ (Fit IntKind.i64 (x4 + 1)) ∧ e) (by kernel_rfl) ⟨h1, decide_eq_true h2, h3, h4, h5, h6, h7, h8, h9, h10, rfl⟩
theorem f16_L0_1 {x1p : Nat} {x1o : Nat} {x1l : Nat} {x2p : Nat} {x2o : Nat} {x2l : Nat} {x3p : Nat} {x3o : Nat} {x3l : Nat} {x4 : Int} {H0 : AHeap} {prot : Nat} {H : AHeap} {x12a : Option Addr} {x12n : Nat} {x12c : Nat} (h1 : getCells H x1p x1l (x1o + 2) 1 = some [Value.slice x12a x12n x12c]) (h2 : ¬(x4 < (↑x12n : Int))) : lpOf cfg a16 0 prot H0 ([.pointer (some ⟨x1p, x1o, some x1l⟩), .pointer (some ⟨x2p, x2o, some x2l⟩), .pointer (some ⟨x3p, x3o, some x3l⟩), .int .i64 x4], H) = some (Sum.inr (Ex.exit 0, [Value.pointer (some { block := x2p, off := x2o, spot := some x2l }), Value.pointer (some { block := x3p, off := x3o, spot := some x3l })], H)) :=
  lp_of [.v (.slice x12a x12n x12c), .e, .e, .b false] (fun e => (getCells H x1p x1l (x1o + 2) 1 = some [Value.slice x12a x12n x12c]) ∧ (decide (x4 < (↑x12n : Int)) = false) ∧ e) (by kernel_rfl) ⟨h1, decide_eq_false h2, rfl⟩
end Go.Proofs.Ythjkodbinkiifaa.Am23
namespace Go.Proofs.Ythjkodbinkiifaa.Am23
open Go Go.Proofs.Ythjkodbinkiifaa.Am

theorem set3 {H : AHeap} {p prot : Nat} {a b c v : Value} {e : TypeId} (h : H[p]? = some (.cells [a, b, c] e 3 .var)) (hp : prot ≤ p) (hv : isCell v = true) : setCells H prot p 3 (0 + 2) [v] = some (H.set p (.cells [a, b, v] e 3 .var)) := by
  unfold setCells
  rw [h]
  simp only
  rw [if_pos ⟨rfl, hp, rfl, by simp, by simp [hv]⟩]
  rfl
theorem setAll3 {H : AHeap} {p prot : Nat} {a b c x y z : Value} {e : TypeId} (h : H[p]? = some (.cells [a, b, c] e 3 .var)) (hp : prot ≤ p) (hv : [x, y, z].all isCell = true) : setCells H prot p 3 0 [x, y, z] = some (H.set p (.cells [x, y, z] e 3 .var)) := by
  unfold setCells
  rw [h]
  simp only
  rw [if_pos ⟨rfl, hp, rfl, by simp, hv⟩]
  rfl

theorem loop16 {k : Int} {bs : List Bool} {vN vA : Value} {H0 : AHeap} {prot : Nat} (hlen : bs.length ≤ 100000) (hl : Low H0.length vA) : ∀ (d i : Nat) (acc : Value) (o : Option Nat) (H : AHeap), i + d = bs.length →
    H[H0.length]? = some (bx k vN vA) → H[H0.length + 2]? = some (bx k vN acc) → Rd H 4 1 vA bs.length (bll bs) → Own H 4 1 acc o i (bll ((bs.take i).map (!·))) → (∀ id, o = some id → H0.length + 3 ≤ id) → H0.length + 3 ≤ H.length → Stay none H0 H →
    ∃ acc' o' H', lpInf (lpOf cfg a16 0 prot H0) ([.pointer (some ⟨H0.length, 0, some 3⟩), .pointer (some ⟨H0.length + 1, 0, some 3⟩), .pointer (some ⟨H0.length + 2, 0, some 3⟩), .int .i64 i], H) =
      some (.exit 0, [.pointer (some ⟨H0.length + 1, 0, some 3⟩), .pointer (some ⟨H0.length + 2, 0, some 3⟩)], H') ∧ H'[H0.length + 2]? = some (bx k vN acc') ∧ H'[H0.length + 1]? = H[H0.length + 1]? ∧ Own H' 4 1 acc' o' bs.length (bll (bs.map (!·))) ∧ (∀ id, o' = some id → H0.length + 3 ≤ id) ∧ Stay none H0 H' ∧ H0.length + 3 ≤ H'.length
  | 0, i, acc, o, H, hi, hb, h3, hA, hx, ho, hH, hst => by
    obtain ⟨aA, cA, rfl⟩ := hA.len
    obtain ⟨_, _, g2, _⟩ := fld3 hb
    have : i = bs.length := by omega
    subst this
    rw [List.take_length] at hx
    exact ⟨acc, o, H, lp_last (f16_L0_1 g2 (by omega)), h3, rfl, hx, ho, hst, hH⟩
  | d + 1, i, acc, o, H, hi, hb, h3, hA, hx, ho, hH, hst => by
    obtain ⟨aA, cA, rfl⟩ := hA.len
    obtain ⟨ac, cc, rfl⟩ := hx.len
    obtain ⟨_, _, g2, _⟩ := fld3 hb
    obtain ⟨_, _, k2, _⟩ := fld3 h3
    have hil : i < bs.length := by omega
    obtain ⟨idA, LA, n1, n2⟩ := rd_at T23 hA (bll_get hil)
    obtain ⟨a', c', o', H2, q1, q2, q3, q4, q5, q6⟩ := own_app T23 hx (ecs := [.bool (!bs[i])]) rfl rfl (prot := H0.length) (room := false) (fun id h => by have := ho id h; omega) (by omega) (by omega) (L := 1 * 1) rfl (el := [Value.bool (!bs[i])].length) rfl
    have ho' : H0.length + 3 ≤ o' := by
      cases o with
      | none => have := q5 rfl; omega
      | some id => rw [q6 id rfl]; exact ho id rfl
    have hne : ∀ q, q < H0.length + 3 → o ≠ some q := fun q hq e => by have := ho q e; omega
    have h32 : H2[H0.length + 2]? = some (bx k vN (.slice ac i cc)) := by rw [q3.2 _ (by omega) (hne _ (by omega))]; exact h3
    have hset := set3 (prot := H0.length) h32 (by omega) (show isCell (.slice a' (i + 1) c') = true from rfl)
    have hw : bll ((bs.take i).map (!·)) ++ [.bool (!bs[i])] = bll ((bs.take (i + 1)).map (!·)) := by
      rw [List.take_add_one, List.getElem?_eq_getElem hil, List.map_append]
      unfold bll
      rw [List.map_append]
      rfl
    rw [hw] at q2
    have s3 : Stay (some (H0.length + 2)) H2 (H2.set (H0.length + 2) (bx k vN (.slice a' (i + 1) c'))) := ⟨by simp, fun q _ hq => List.getElem?_set_ne (fun e => hq (by rw [e]))⟩
    have hl2 := q3.1
    obtain ⟨acc', o2, H', r1, r2, r3, r4, r5, r6, r7⟩ := loop16 hlen hl (prot := prot) d (i + 1) (.slice a' (i + 1) c') (some o') _ (by omega)
      (by rw [s3.2 _ (by omega) (by simp), q3.2 _ (by omega) (hne _ (by omega))]; exact hb) (List.getElem?_set_self (by omega))
      ((hA.stayLow hl q3 (fun id h => by have := ho id h; omega)).stayLow hl s3 (fun id h => by cases h; omega)) (q2.stay s3 (fun id h1 h2 => by cases h1; cases h2; omega)) (fun id h => by cases h; exact ho') (by simp; omega)
      ((hst.over q3 (fun id h => by have := ho id h; omega)).over s3 (fun id h => by cases h; omega))
    refine ⟨acc', o2, H', lp_next (f16_L0_0 g2 (by omega) k2 g2 n1 n2 q1 rfl hset (fit64 (by omega) (by omega))) r1, r2, ?_, r4, r5, r6, r7⟩
    rw [r3, s3.2 _ (by omega) (by simp), q3.2 _ (by omega) (hne _ (by omega))]

theorem gc_agg {H H' : AHeap} {cs : Array Value} (h : plain1 (.agg cs) = false) : gc H [.agg cs] H' = (.agg cs, H') := by
  unfold gc
  have : keepAll H.length H' [.agg cs] [] = none := by
    simp only [keepAll, keep1]
    rw [if_neg (by rw [h]; simp)]
    rfl
  rw [this]
  split <;> rfl

theorem c16 {k : Int} {xs : List Int} {bs : List Bool} {vN vA : Value} (prot : Nat) (H : AHeap) (hA : IsA H xs bs vN vA) (hn : 1 ≤ bs.length) (hn5 : bs.length ≤ 100000) :
    ∃ vA' H', callInf cfg 16 [av k vN vA] prot H = some (av k vN vA', H') ∧ IsA H' xs (bs.map (!·)) vN vA' ∧ Stay none H H' := by
  have lA := hA.a.low
  obtain ⟨aN, cN, rfl⟩ := hA.n.len
  obtain ⟨aA, cA, rfl⟩ := hA.a.len
  obtain ⟨B0, hB0⟩ : ∃ B0, B0 = AObj.cells [.int .i64 0, .slice none 0 0, .slice none 0 0] 25 3 .var := ⟨_, rfl⟩
  obtain ⟨HX, hHX⟩ : ∃ HX, HX = H ++ [bx k (.slice aN xs.length cN) (.slice aA bs.length cA)] ++ [B0] := ⟨_, rfl⟩
  have lX : HX.length = H.length + 2 := by rw [hHX]; simp
  have gX : HX[H.length]? = some (bx k (.slice aN xs.length cN) (.slice aA bs.length cA)) := by
    rw [hHX, List.getElem?_append_left (by simp)]; exact append_get.1
  have gX1 : HX[H.length + 1]? = some B0 := by
    rw [hHX, List.getElem?_append_right (by simp)]; simp
  obtain ⟨HY, hHY⟩ : ∃ HY, HY = HX ++ [B0] := ⟨_, rfl⟩
  have lY : HY.length = H.length + 3 := by rw [hHY]; simp; omega
  have sXY : Stay none HX HY := by rw [hHY]; exact Stay.app none HX _
  have sX : Stay none H HX := by rw [hHX]; exact (Stay.app none H _).trans (Stay.app none _ _)
  have gY : HY[H.length + 2]? = some B0 := by rw [hHY, ← lX]; exact append_get.1
  obtain ⟨H1, hH1⟩ : ∃ H1, H1 = HY.set (H.length + 2) (bx k (.slice aN xs.length cN) (.slice none 0 0)) := ⟨_, rfl⟩
  have s1 : Stay (some (H.length + 2)) HY H1 := by rw [hH1]; exact ⟨by simp, fun q _ hq => List.getElem?_set_ne (fun e => hq (by rw [e]))⟩
  have l1 : H1.length = H.length + 3 := by rw [hH1]; simp; omega
  have hset1 : setCells HY H.length (H.length + 2) 3 0 [.int .i64 k, .slice aN xs.length cN, .slice none 0 0] = some H1 := by
    rw [hH1]
    rw [hB0] at gY
    exact setAll3 gY (by omega) rfl
  have st1 : Stay none H H1 := (sX.trans sXY).over s1 (fun id h => by cases h; omega)
  have hA1 := hA.stay st1
  have gb : H1[H.length]? = some (bx k (.slice aN xs.length cN) (.slice aA bs.length cA)) := by
    rw [s1.2 _ (by omega) (by simp), sXY.2 _ (by omega) (by simp)]; exact gX
  have gb2 : H1[H.length + 2]? = some (bx k (.slice aN xs.length cN) (.slice none 0 0)) := by
    rw [hH1]; exact List.getElem?_set_self (by omega)
  have gb1 : H1[H.length + 1]? = some B0 := by
    rw [s1.2 _ (by omega) (by simp), sXY.2 _ (by omega) (by simp)]; exact gX1
  obtain ⟨acc, o, H2, q1, q2, q3, q4, q5, q6, q7⟩ := loop16 (k := k) (vN := .slice aN xs.length cN) (prot := prot) hn5 lA bs.length 0 (.slice none 0 0) none H1 (by omega) gb gb2 hA1.a own_nil (fun id h => by cases h) (by omega) st1
  obtain ⟨ac, cc, rfl⟩ := q4.len
  rw [gb1, hB0] at q3
  obtain ⟨_, _, _, w3⟩ := fld3 q2
  have hset2 := setAll3 (prot := H.length) (x := .int .i64 k) (y := .slice aN xs.length cN) (z := .slice ac bs.length cc) q3 (by omega) rfl
  obtain ⟨H3, hH3⟩ : ∃ H3, H3 = H2.set (H.length + 1) (.cells [.int .i64 k, .slice aN xs.length cN, .slice ac bs.length cc] 25 3 .var) := ⟨_, rfl⟩
  rw [← hH3] at hset2
  have s3 : Stay (some (H.length + 1)) H2 H3 := by rw [hH3]; exact ⟨by simp, fun q _ hq => List.getElem?_set_ne (fun e => hq (by rw [e]))⟩
  have g3 : H3[H.length + 1]? = some (.cells [.int .i64 k, .slice aN xs.length cN, .slice ac bs.length cc] 25 3 .var) := by rw [hH3]; exact List.getElem?_set_self (by omega)
  obtain ⟨_, _, _, w4⟩ := fld3 g3
  have st3 : Stay none H H3 := q6.over s3 (fun id h => by cases h; omega)
  have q4' := q4.stay s3 (fun id h1 h2 => by cases h2; have := q5 _ h1; omega)
  refine ⟨.slice ac bs.length cc, H3, ?_, ⟨hA.n.stay st3, ?_⟩, st3⟩
  · obtain ⟨g0, g1, _, _⟩ := fld3 gX
    have lt1 : (H ++ [bx k (.slice aN xs.length cN) (.slice aA bs.length cA)]).length = H.length + 1 := by simp
    have e2 : (H ++ [bx k (.slice aN xs.length cN) (.slice aA bs.length cA)] ++ [B0]).length = H.length + 2 := by simp
    subst hHY; subst hHX; subst hB0
    rw [← e2] at hset1 q1 w3
    rw [← lt1] at q1 hset2 w4
    refine f16_F_0 (rv := av k (.slice aN xs.length cN) (.slice ac bs.length cc)) (rH := H3) all3 g0 g1 rfl hset1 q1 w3 rfl hset2 w4 ?_
    rw [pfin_eq]
    refine gc_agg ?_
    have hne : ac ≠ none := fun e => by
      subst e
      cases o with
      | none =>
        have := q4.2.1
        omega
      | some id =>
        have := q4.2.2.1
        cases this
    cases ac with
    | none => exact absurd rfl hne
    | some x => simp [plain1, plain0]
  · have : (bs.map (!·)).length = bs.length := by simp
    rw [this]
    exact q4'.rd
end Go.Proofs.Ythjkodbinkiifaa.Am23
set_option linter.unusedVariables false
open Go Go.Proofs.Ythjkodbinkiifaa.Am
namespace Go.Proofs.Ythjkodbinkiifaa.Am23
theorem f13_F_0 {x0a : Int} {x0ba : Option Addr} {x0bn : Nat} {x0bc : Nat} {x0ca : Option Addr} {x0cn : Nat} {x0cc : Nat} {H : AHeap} {prot : Nat} {x8a : Int} {x8ba : Option Addr} {x8bn : Nat} {x8bc : Nat} {x8ca : Option Addr} {x8cn : Nat} {x8cc : Nat} {x9 : Int} {H1 : AHeap} {wa : ByteArray} {wb : ByteArray} {wc : ByteArray} (h1 : [Value.int IntKind.i64 x0a, Value.slice x0ba x0bn x0bc, Value.slice x0ca x0cn x0cc].all isCell = true) (h2 : getCells (H ++ [AObj.cells [Value.int IntKind.i64 x0a, Value.slice x0ba x0bn x0bc, Value.slice x0ca x0cn x0cc] 25 [Value.int IntKind.i64 x0a, Value.slice x0ba x0bn x0bc, Value.slice x0ca x0cn x0cc].length OMode.var] ++ [AObj.cells [Value.string { data := { toList := [] } }, Value.string { data := { toList := [] } }, Value.string { data := { toList := [] } }] 29 [Value.string { data := { toList := [] } }, Value.string { data := { toList := [] } }, Value.string { data := { toList := [] } }].length OMode.var]) (List.length H) [Value.int IntKind.i64 x0a, Value.slice x0ba x0bn x0bc, Value.slice x0ca x0cn x0cc].length 0 3 = some [Value.int IntKind.i64 x8a, Value.slice x8ba x8bn x8bc, Value.slice x8ca x8cn x8cc]) (h3 : callInf cfg 36 [Value.agg { toList := [Value.int IntKind.i64 x8a, Value.slice x8ba x8bn x8bc, Value.slice x8ca x8cn x8cc] }] (List.length H) (H ++ [AObj.cells [Value.int IntKind.i64 x0a, Value.slice x0ba x0bn x0bc, Value.slice x0ca x0cn x0cc] 25 [Value.int IntKind.i64 x0a, Value.slice x0ba x0bn x0bc, Value.slice x0ca x0cn x0cc].length OMode.var] ++ [AObj.cells [Value.string { data := { toList := [] } }, Value.string { data := { toList := [] } }, Value.string { data := { toList := [] } }] 29 [Value.string { data := { toList := [] } }, Value.string { data := { toList := [] } }, Value.string { data := { toList := [] } }].length OMode.var]) = some (Value.int IntKind.i64 x9, H ++ [AObj.cells [Value.int IntKind.i64 x0a, Value.slice x0ba x0bn x0bc, Value.slice x0ca x0cn x0cc] 25 [Value.int IntKind.i64 x0a, Value.slice x0ba x0bn x0bc, Value.slice x0ca x0cn x0cc].length OMode.var] ++ [AObj.cells [Value.string { data := { toList := [] } }, Value.string { data := { toList := [] } }, Value.string { data := { toList := [] } }] 29 [Value.string { data := { toList := [] } }, Value.string { data := { toList := [] } }, Value.string { data := { toList := [] } }].length OMode.var])) (h4 : (x9 != 0) = true) (h5 : [Value.string { data := { toList := [] } }, Value.string { data := { toList := [] } }, Value.string { data := { toList := [] } }].length = 3) (h6 : setCells (H ++ [AObj.cells [Value.int IntKind.i64 x0a, Value.slice x0ba x0bn x0bc, Value.slice x0ca x0cn x0cc] 25 [Value.int IntKind.i64 x0a, Value.slice x0ba x0bn x0bc, Value.slice x0ca x0cn x0cc].length OMode.var] ++ [AObj.cells [Value.string { data := { toList := [] } }, Value.string { data := { toList := [] } }, Value.string { data := { toList := [] } }] 29 [Value.string { data := { toList := [] } }, Value.string { data := { toList := [] } }, Value.string { data := { toList := [] } }].length OMode.var]) (List.length H) (List.length (H ++ [AObj.cells [Value.int IntKind.i64 x0a, Value.slice x0ba x0bn x0bc, Value.slice x0ca x0cn x0cc] 25 [Value.int IntKind.i64 x0a, Value.slice x0ba x0bn x0bc, Value.slice x0ca x0cn x0cc].length OMode.var])) [Value.string { data := { toList := [] } }, Value.string { data := { toList := [] } }, Value.string { data := { toList := [] } }].length 0 [Value.string { data := { toList := [] } }, Value.string { data := { toList := [] } }, Value.string { data := { toList := [] } }] = some H1) (h7 : getCells H1 (List.length (H ++ [AObj.cells [Value.int IntKind.i64 x0a, Value.slice x0ba x0bn x0bc, Value.slice x0ca x0cn x0cc] 25 [Value.int IntKind.i64 x0a, Value.slice x0ba x0bn x0bc, Value.slice x0ca x0cn x0cc].length OMode.var])) [Value.string { data := { toList := [] } }, Value.string { data := { toList := [] } }, Value.string { data := { toList := [] } }].length 0 3 = some [Value.string wa, Value.string wb, Value.string wc]) : callInf cfg 13 [.agg #[.int .i64 x0a, .slice x0ba x0bn x0bc, .slice x0ca x0cn x0cc]] prot H = some (Value.tuple { toList := [Value.bool false, Value.agg { toList := [Value.string wa, Value.string wb, Value.string wc] }, Value.int IntKind.i64 x9] }, H) :=
  fn_of a13 [.e, .e, .v (.agg #[.int .i64 x8a, .slice x8ba x8bn x8bc, .slice x8ca x8cn x8cc]), .v (.int .i64 x9), .e, .b true, .e, .h H1, .v (.agg #[.string wa, .string wb, .string wc])] (fun e => ([Value.int IntKind.i64 x0a, Value.slice x0ba x0bn x0bc, Value.slice x0ca x0cn x0cc].all isCell = true) ∧ (getCells (H ++ [AObj.cells [Value.int IntKind.i64 x0a, Value.slice x0ba x0bn x0bc, Value.slice x0ca x0cn x0cc] 25 [Value.int IntKind.i64 x0a, Value.slice x0ba x0bn x0bc, Value.slice x0ca x0cn x0cc].length OMode.var] ++ [AObj.cells [Value.string { data := { toList := [] } }, Value.string { data := { toList := [] } }, Value.string { data := { toList := [] } }] 29 [Value.string { data := { toList := [] } }, Value.string { data := { toList := [] } }, Value.string { data := { toList := [] } }].length OMode.var]) (List.length H) [Value.int IntKind.i64 x0a, Value.slice x0ba x0bn x0bc, Value.slice x0ca x0cn x0cc].length 0 3 = some [Value.int IntKind.i64 x8a, Value.slice x8ba x8bn x8bc, Value.slice x8ca x8cn x8cc]) ∧ (callInf cfg 36 [Value.agg { toList := [Value.int IntKind.i64 x8a, Value.slice x8ba x8bn x8bc, Value.slice x8ca x8cn x8cc] }] (List.length H) (H ++ [AObj.cells [Value.int IntKind.i64 x0a, Value.slice x0ba x0bn x0bc, Value.slice x0ca x0cn x0cc] 25 [Value.int IntKind.i64 x0a, Value.slice x0ba x0bn x0bc, Value.slice x0ca x0cn x0cc].length OMode.var] ++ [AObj.cells [Value.string { data := { toList := [] } }, Value.string { data := { toList := [] } }, Value.string { data := { toList := [] } }] 29 [Value.string { data := { toList := [] } }, Value.string { data := { toList := [] } }, Value.string { data := { toList := [] } }].length OMode.var]) = some (Value.int IntKind.i64 x9, H ++ [AObj.cells [Value.int IntKind.i64 x0a, Value.slice x0ba x0bn x0bc, Value.slice x0ca x0cn x0cc] 25 [Value.int IntKind.i64 x0a, Value.slice x0ba x0bn x0bc, Value.slice x0ca x0cn x0cc].length OMode.var] ++ [AObj.cells [Value.string { data := { toList := [] } }, Value.string { data := { toList := [] } }, Value.string { data := { toList := [] } }] 29 [Value.string { data := { toList := [] } }, Value.string { data := { toList := [] } }, Value.string { data := { toList := [] } }].length OMode.var])) ∧ ((x9 != 0) = true) ∧ ([Value.string { data := { toList := [] } }, Value.string { data := { toList := [] } }, Value.string { data := { toList := [] } }].length = 3) ∧ (setCells (H ++ [AObj.cells [Value.int IntKind.i64 x0a, Value.slice x0ba x0bn x0bc, Value.slice x0ca x0cn x0cc] 25 [Value.int IntKind.i64 x0a, Value.slice x0ba x0bn x0bc, Value.slice x0ca x0cn x0cc].length OMode.var] ++ [AObj.cells [Value.string { data := { toList := [] } }, Value.string { data := { toList := [] } }, Value.string { data := { toList := [] } }] 29 [Value.string { data := { toList := [] } }, Value.string { data := { toList := [] } }, Value.string { data := { toList := [] } }].length OMode.var]) (List.length H) (List.length (H ++ [AObj.cells [Value.int IntKind.i64 x0a, Value.slice x0ba x0bn x0bc, Value.slice x0ca x0cn x0cc] 25 [Value.int IntKind.i64 x0a, Value.slice x0ba x0bn x0bc, Value.slice x0ca x0cn x0cc].length OMode.var])) [Value.string { data := { toList := [] } }, Value.string { data := { toList := [] } }, Value.string { data := { toList := [] } }].length 0 [Value.string { data := { toList := [] } }, Value.string { data := { toList := [] } }, Value.string { data := { toList := [] } }] = some H1) ∧ (getCells H1 (List.length (H ++ [AObj.cells [Value.int IntKind.i64 x0a, Value.slice x0ba x0bn x0bc, Value.slice x0ca x0cn x0cc] 25 [Value.int IntKind.i64 x0a, Value.slice x0ba x0bn x0bc, Value.slice x0ca x0cn x0cc].length OMode.var])) [Value.string { data := { toList := [] } }, Value.string { data := { toList := [] } }, Value.string { data := { toList := [] } }].length 0 3 = some [Value.string wa, Value.string wb, Value.string wc]) ∧ e) (by kernel_rfl) ⟨h1, h2, h3, h4, h5, h6, h7, rfl⟩ rfl
theorem f13_F_1 {x0a : Int} {x0ba : Option Addr} {x0bn : Nat} {x0bc : Nat} {x0ca : Option Addr} {x0cn : Nat} {x0cc : Nat} {H : AHeap} {prot : Nat} {x8a : Int} {x8ba : Option Addr} {x8bn : Nat} {x8bc : Nat} {x8ca : Option Addr} {x8cn : Nat} {x8cc : Nat} {x9 : Int} {x15a : Int} {x15ba : Option Addr} {x15bn : Nat} {x15bc : Nat} {x15ca : Option Addr} {x15cn : Nat} {x15cc : Nat} {x16a : Bool} {x16ba : ByteArray} {x16bb : ByteArray} {x16bc : ByteArray} {H1 : AHeap} {x20a : ByteArray} {x20b : ByteArray} {x20c : ByteArray} {H2 : AHeap} {wa : ByteArray} {wb : ByteArray} {wc : ByteArray} (h1 : [Value.int IntKind.i64 x0a, Value.slice x0ba x0bn x0bc, Value.slice x0ca x0cn x0cc].all isCell = true) (h2 : getCells (H ++ [AObj.cells [Value.int IntKind.i64 x0a, Value.slice x0ba x0bn x0bc, Value.slice x0ca x0cn x0cc] 25 [Value.int IntKind.i64 x0a, Value.slice x0ba x0bn x0bc, Value.slice x0ca x0cn x0cc].length OMode.var] ++ [AObj.cells [Value.string { data := { toList := [] } }, Value.string { data := { toList := [] } }, Value.string { data := { toList := [] } }] 29 [Value.string { data := { toList := [] } }, Value.string { data := { toList := [] } }, Value.string { data := { toList := [] } }].length OMode.var]) (List.length H) [Value.int IntKind.i64 x0a, Value.slice x0ba x0bn x0bc, Value.slice x0ca x0cn x0cc].length 0 3 = some [Value.int IntKind.i64 x8a, Value.slice x8ba x8bn x8bc, Value.slice x8ca x8cn x8cc]) (h3 : callInf cfg 36 [Value.agg { toList := [Value.int IntKind.i64 x8a, Value.slice x8ba x8bn x8bc, Value.slice x8ca x8cn x8cc] }] (List.length H) (H ++ [AObj.cells [Value.int IntKind.i64 x0a, Value.slice x0ba x0bn x0bc, Value.slice x0ca x0cn x0cc] 25 [Value.int IntKind.i64 x0a, Value.slice x0ba x0bn x0bc, Value.slice x0ca x0cn x0cc].length OMode.var] ++ [AObj.cells [Value.string { data := { toList := [] } }, Value.string { data := { toList := [] } }, Value.string { data := { toList := [] } }] 29 [Value.string { data := { toList := [] } }, Value.string { data := { toList := [] } }, Value.string { data := { toList := [] } }].length OMode.var]) = some (Value.int IntKind.i64 x9, H ++ [AObj.cells [Value.int IntKind.i64 x0a, Value.slice x0ba x0bn x0bc, Value.slice x0ca x0cn x0cc] 25 [Value.int IntKind.i64 x0a, Value.slice x0ba x0bn x0bc, Value.slice x0ca x0cn x0cc].length OMode.var] ++ [AObj.cells [Value.string { data := { toList := [] } }, Value.string { data := { toList := [] } }, Value.string { data := { toList := [] } }] 29 [Value.string { data := { toList := [] } }, Value.string { data := { toList := [] } }, Value.string { data := { toList := [] } }].length OMode.var])) (h4 : (x9 != 0) = false) (h5 : getCells (H ++ [AObj.cells [Value.int IntKind.i64 x0a, Value.slice x0ba x0bn x0bc, Value.slice x0ca x0cn x0cc] 25 [Value.int IntKind.i64 x0a, Value.slice x0ba x0bn x0bc, Value.slice x0ca x0cn x0cc].length OMode.var] ++ [AObj.cells [Value.string { data := { toList := [] } }, Value.string { data := { toList := [] } }, Value.string { data := { toList := [] } }] 29 [Value.string { data := { toList := [] } }, Value.string { data := { toList := [] } }, Value.string { data := { toList := [] } }].length OMode.var]) (List.length H) [Value.int IntKind.i64 x0a, Value.slice x0ba x0bn x0bc, Value.slice x0ca x0cn x0cc].length 0 3 = some [Value.int IntKind.i64 x15a, Value.slice x15ba x15bn x15bc, Value.slice x15ca x15cn x15cc]) (h6 : callInf cfg 37 [Value.agg { toList := [Value.int IntKind.i64 x15a, Value.slice x15ba x15bn x15bc, Value.slice x15ca x15cn x15cc] }] (List.length H) (H ++ [AObj.cells [Value.int IntKind.i64 x0a, Value.slice x0ba x0bn x0bc, Value.slice x0ca x0cn x0cc] 25 [Value.int IntKind.i64 x0a, Value.slice x0ba x0bn x0bc, Value.slice x0ca x0cn x0cc].length OMode.var] ++ [AObj.cells [Value.string { data := { toList := [] } }, Value.string { data := { toList := [] } }, Value.string { data := { toList := [] } }] 29 [Value.string { data := { toList := [] } }, Value.string { data := { toList := [] } }, Value.string { data := { toList := [] } }].length OMode.var]) = some (Value.tuple { toList := [Value.bool x16a, Value.agg { toList := [Value.string x16ba, Value.string x16bb, Value.string x16bc] }] }, H ++ [AObj.cells [Value.int IntKind.i64 x0a, Value.slice x0ba x0bn x0bc, Value.slice x0ca x0cn x0cc] 25 [Value.int IntKind.i64 x0a, Value.slice x0ba x0bn x0bc, Value.slice x0ca x0cn x0cc].length OMode.var] ++ [AObj.cells [Value.string { data := { toList := [] } }, Value.string { data := { toList := [] } }, Value.string { data := { toList := [] } }] 29 [Value.string { data := { toList := [] } }, Value.string { data := { toList := [] } }, Value.string { data := { toList := [] } }].length OMode.var])) (h7 : [Value.string x16ba, Value.string x16bb, Value.string x16bc].length = 3) (h8 : setCells (H ++ [AObj.cells [Value.int IntKind.i64 x0a, Value.slice x0ba x0bn x0bc, Value.slice x0ca x0cn x0cc] 25 [Value.int IntKind.i64 x0a, Value.slice x0ba x0bn x0bc, Value.slice x0ca x0cn x0cc].length OMode.var] ++ [AObj.cells [Value.string { data := { toList := [] } }, Value.string { data := { toList := [] } }, Value.string { data := { toList := [] } }] 29 [Value.string { data := { toList := [] } }, Value.string { data := { toList := [] } }, Value.string { data := { toList := [] } }].length OMode.var] ++ [AObj.cells [Value.string { data := { toList := [] } }, Value.string { data := { toList := [] } }, Value.string { data := { toList := [] } }] 29 [Value.string { data := { toList := [] } }, Value.string { data := { toList := [] } }, Value.string { data := { toList := [] } }].length OMode.var]) (List.length H) (List.length (H ++ [AObj.cells [Value.int IntKind.i64 x0a, Value.slice x0ba x0bn x0bc, Value.slice x0ca x0cn x0cc] 25 [Value.int IntKind.i64 x0a, Value.slice x0ba x0bn x0bc, Value.slice x0ca x0cn x0cc].length OMode.var] ++ [AObj.cells [Value.string { data := { toList := [] } }, Value.string { data := { toList := [] } }, Value.string { data := { toList := [] } }] 29 [Value.string { data := { toList := [] } }, Value.string { data := { toList := [] } }, Value.string { data := { toList := [] } }].length OMode.var])) [Value.string { data := { toList := [] } }, Value.string { data := { toList := [] } }, Value.string { data := { toList := [] } }].length 0 [Value.string x16ba, Value.string x16bb, Value.string x16bc] = some H1) (h9 : getCells H1 (List.length (H ++ [AObj.cells [Value.int IntKind.i64 x0a, Value.slice x0ba x0bn x0bc, Value.slice x0ca x0cn x0cc] 25 [Value.int IntKind.i64 x0a, Value.slice x0ba x0bn x0bc, Value.slice x0ca x0cn x0cc].length OMode.var] ++ [AObj.cells [Value.string { data := { toList := [] } }, Value.string { data := { toList := [] } }, Value.string { data := { toList := [] } }] 29 [Value.string { data := { toList := [] } }, Value.string { data := { toList := [] } }, Value.string { data := { toList := [] } }].length OMode.var])) [Value.string { data := { toList := [] } }, Value.string { data := { toList := [] } }, Value.string { data := { toList := [] } }].length 0 3 = some [Value.string x20a, Value.string x20b, Value.string x20c]) (h10 : [Value.string x20a, Value.string x20b, Value.string x20c].length = 3) (h11 : setCells H1 (List.length H) (List.length (H ++ [AObj.cells [Value.int IntKind.i64 x0a, Value.slice x0ba x0bn x0bc, Value.slice x0ca x0cn x0cc] 25 [Value.int IntKind.i64 x0a, Value.slice x0ba x0bn x0bc, Value.slice x0ca x0cn x0cc].length OMode.var])) [Value.string { data := { toList := [] } }, Value.string { data := { toList := [] } }, Value.string { data := { toList := [] } }].length 0 [Value.string x20a, Value.string x20b, Value.string x20c] = some H2) (h12 : getCells H2 (List.length (H ++ [AObj.cells [Value.int IntKind.i64 x0a, Value.slice x0ba x0bn x0bc, Value.slice x0ca x0cn x0cc] 25 [Value.int IntKind.i64 x0a, Value.slice x0ba x0bn x0bc, Value.slice x0ca x0cn x0cc].length OMode.var])) [Value.string { data := { toList := [] } }, Value.string { data := { toList := [] } }, Value.string { data := { toList := [] } }].length 0 3 = some [Value.string wa, Value.string wb, Value.string wc]) : callInf cfg 13 [.agg #[.int .i64 x0a, .slice x0ba x0bn x0bc, .slice x0ca x0cn x0cc]] prot H = some (Value.tuple { toList := [Value.bool x16a, Value.agg { toList := [Value.string wa, Value.string wb, Value.string wc] }, Value.int IntKind.i64 0] }, H) :=
  fn_of a13 [.e, .e, .v (.agg #[.int .i64 x8a, .slice x8ba x8bn x8bc, .slice x8ca x8cn x8cc]), .v (.int .i64 x9), .e, .b false, .v (.agg #[.int .i64 x15a, .slice x15ba x15bn x15bc, .slice x15ca x15cn x15cc]), .v (.tuple #[.bool x16a, .agg #[.string x16ba, .string x16bb, .string x16bc]]), .e, .h H1, .v (.agg #[.string x20a, .string x20b, .string x20c]), .h H2, .v (.agg #[.string wa, .string wb, .string wc])] (fun e => ([Value.int IntKind.i64 x0a, Value.slice x0ba x0bn x0bc, Value.slice x0ca x0cn x0cc].all isCell = true) ∧ (getCells (H ++ [AObj.cells [Value.int IntKind.i64 x0a, Value.slice x0ba x0bn x0bc, Value.slice x0ca x0cn x0cc] 25 [Value.int IntKind.i64 x0a, Value.slice x0ba x0bn x0bc, Value.slice x0ca x0cn x0cc].length OMode.var] ++ [AObj.cells [Value.string { data := { toList := [] } }, Value.string { data := { toList := [] } }, Value.string { data := { toList := [] } }] 29 [Value.string { data := { toList := [] } }, Value.string { data := { toList := [] } }, Value.string { data := { toList := [] } }].length OMode.var]) (List.length H) [Value.int IntKind.i64 x0a, Value.slice x0ba x0bn x0bc, Value.slice x0ca x0cn x0cc].length 0 3 = some [Value.int IntKind.i64 x8a, Value.slice x8ba x8bn x8bc, Value.slice x8ca x8cn x8cc]) ∧ (callInf cfg 36 [Value.agg { toList := [Value.int IntKind.i64 x8a, Value.slice x8ba x8bn x8bc, Value.slice x8ca x8cn x8cc] }] (List.length H) (H ++ [AObj.cells [Value.int IntKind.i64 x0a, Value.slice x0ba x0bn x0bc, Value.slice x0ca x0cn x0cc] 25 [Value.int IntKind.i64 x0a, Value.slice x0ba x0bn x0bc, Value.slice x0ca x0cn x0cc].length OMode.var] ++ [AObj.cells [Value.string { data := { toList := [] } }, Value.string { data := { toList := [] } }, Value.string { data := { toList := [] } }] 29 [Value.string { data := { toList := [] } }, Value.string { data := { toList := [] } }, Value.string { data := { toList := [] } }].length OMode.var]) = some (Value.int IntKind.i64 x9, H ++ [AObj.cells [Value.int IntKind.i64 x0a, Value.slice x0ba x0bn x0bc, Value.slice x0ca x0cn x0cc] 25 [Value.int IntKind.i64 x0a, Value.slice x0ba x0bn x0bc, Value.slice x0ca x0cn x0cc].length OMode.var] ++ [AObj.cells [Value.string { data := { toList := [] } }, Value.string { data := { toList := [] } }, Value.string { data := { toList := [] } }] 29 [Value.string { data := { toList := [] } }, Value.string { data := { toList := [] } }, Value.string { data := { toList := [] } }].length OMode.var])) ∧ ((x9 != 0) = false) ∧ (getCells (H ++ [AObj.cells [Value.int IntKind.i64 x0a, Value.slice x0ba x0bn x0bc, Value.slice x0ca x0cn x0cc] 25 [Value.int IntKind.i64 x0a, Value.slice x0ba x0bn x0bc, Value.slice x0ca x0cn x0cc].length OMode.var] ++ [AObj.cells [Value.string { data := { toList := [] } }, Value.string { data := { toList := [] } }, Value.string { data := { toList := [] } }] 29 [Value.string { data := { toList := [] } }, Value.string { data := { toList := [] } }, Value.string { data := { toList := [] } }].length OMode.var]) (List.length H) [Value.int IntKind.i64 x0a, Value.slice x0ba x0bn x0bc, Value.slice x0ca x0cn x0cc].length 0 3 = some [Value.int IntKind.i64 x15a, Value.slice x15ba x15bn x15bc, Value.slice x15ca x15cn x15cc]) ∧ (callInf cfg 37 [Value.agg { toList := [Value.int IntKind.i64 x15a, Value.slice x15ba x15bn x15bc, Value.slice x15ca x15cn x15cc] }] (List.length H) (H ++ [AObj.cells [Value.int IntKind.i64 x0a, Value.slice x0ba x0bn x0bc, Value.slice x0ca x0cn x0cc] 25 [Value.int IntKind.i64 x0a, Value.slice x0ba x0bn x0bc, Value.slice x0ca x0cn x0cc].length OMode.var] ++ [AObj.cells [Value.string { data := { toList := [] } }, Value.string { data := { toList := [] } }, Value.string { data := { toList := [] } }] 29 [Value.string { data := { toList := [] } }, Value.string { data := { toList := [] } }, Value.string { data := { toList := [] } }].length OMode.var]) = some (Value.tuple { toList := [Value.bool x16a, Value.agg { toList := [Value.string x16ba, Value.string x16bb, Value.string x16bc] }] }, H ++ [AObj.cells [Value.int IntKind.i64 x0a, Value.slice x0ba x0bn x0bc, Value.slice x0ca x0cn x0cc] 25 [Value.int IntKind.i64 x0a, Value.slice x0ba x0bn x0bc, Value.slice x0ca x0cn x0cc].length OMode.var] ++ [AObj.cells [Value.string { data := { toList := [] } }, Value.string { data := { toList := [] } }, Value.string { data := { toList := [] } }] 29 [Value.string { data := { toList := [] } }, Value.string { data := { toList := [] } }, Value.string { data := { toList := [] } }].length OMode.var])) ∧ ([Value.string x16ba, Value.string x16bb, Value.string x16bc].length = 3) ∧ (setCells (H ++ [AObj.cells [Value.int IntKind.i64 x0a, Value.slice x0ba x0bn x0bc, Value.slice x0ca x0cn x0cc] 25 [Value.int IntKind.i64 x0a, Value.slice x0ba x0bn x0bc, Value.slice x0ca x0cn x0cc].length OMode.var] ++ [AObj.cells [Value.string { data := { toList := [] } }, Value.string { data := { toList := [] } }, Value.string { data := { toList := [] } }] 29 [Value.string { data := { toList := [] } }, Value.string { data := { toList := [] } }, Value.string { data := { toList := [] } }].length OMode.var] ++ [AObj.cells [Value.string { data := { toList := [] } }, Value.string { data := { toList := [] } }, Value.string { data := { toList := [] } }] 29 [Value.string { data := { toList := [] } }, Value.string { data := { toList := [] } }, Value.string { data := { toList := [] } }].length OMode.var]) (List.length H) (List.length (H ++ [AObj.cells [Value.int IntKind.i64 x0a, Value.slice x0ba x0bn x0bc, Value.slice x0ca x0cn x0cc] 25 [Value.int IntKind.i64 x0a, Value.slice x0ba x0bn x0bc, Value.slice x0ca x0cn x0cc].length OMode.var] ++ [AObj.cells [Value.string { data := { toList := [] } }, Value.string { data := { toList := [] } }, Value.string { data := { toList := [] } }] 29 [Value.string { data := { toList := [] } }, Value.string { data := { toList := [] } }, Value.string { data := { toList := [] } }].length OMode.var])) [Value.string { data := { toList := [] } }, Value.string { data := { toList := [] } }, Value.string { data := { toList := [] } }].length 0 [Value.string x16ba, Value.string x16bb, Value.string x16bc] = some H1) ∧ (getCells H1 (List.length (H ++ [AObj.cells [Value.int IntKind.i64 x0a, Value.slice x0ba x0bn x0bc, Value.slice x0ca x0cn x0cc] 25 [Value.int IntKind.i64 x0a, Value.slice x0ba x0bn x0bc, Value.slice x0ca x0cn x0cc].length OMode.var] ++ [AObj.cells [Value.string { data := { toList := [] } }, Value.string { data := { toList := [] } }, Value.string { data := { toList := [] } }] 29 [Value.string { data := { toList := [] } }, Value.string { data := { toList := [] } }, Value.string { data := { toList := [] } }].length OMode.var])) [Value.string { data := { toList := [] } }, Value.string { data := { toList := [] } }, Value.string { data := { toList := [] } }].length 0 3 = some [Value.string x20a, Value.string x20b, Value.string x20c]) ∧ ([Value.string x20a, Value.string x20b, Value.string x20c].length = 3) ∧ (setCells H1 (List.length H) (List.length (H ++ [AObj.cells [Value.int IntKind.i64 x0a, Value.slice x0ba x0bn x0bc, Value.slice x0ca x0cn x0cc] 25 [Value.int IntKind.i64 x0a, Value.slice x0ba x0bn x0bc, Value.slice x0ca x0cn x0cc].length OMode.var])) [Value.string { data := { toList := [] } }, Value.string { data := { toList := [] } }, Value.string { data := { toList := [] } }].length 0 [Value.string x20a, Value.string x20b, Value.string x20c] = some H2) ∧ (getCells H2 (List.length (H ++ [AObj.cells [Value.int IntKind.i64 x0a, Value.slice x0ba x0bn x0bc, Value.slice x0ca x0cn x0cc] 25 [Value.int IntKind.i64 x0a, Value.slice x0ba x0bn x0bc, Value.slice x0ca x0cn x0cc].length OMode.var])) [Value.string { data := { toList := [] } }, Value.string { data := { toList := [] } }, Value.string { data := { toList := [] } }].length 0 3 = some [Value.string wa, Value.string wb, Value.string wc]) ∧ e) (by kernel_rfl) ⟨h1, h2, h3, h4, h5, h6, h7, h8, h9, h10, h11, h12, rfl⟩ rfl
end Go.Proofs.Ythjkodbinkiifaa.Am23
namespace Go.Proofs.Ythjkodbinkiifaa.Am23
open Go Go.Proofs.Ythjkodbinkiifaa.Am

abbrev pv (v : ByteArray × ByteArray × ByteArray) : Value := .agg #[.string v.1, .string v.2.1, .string v.2.2]
theorem set3s {H : AHeap} {p prot : Nat} {a b c x y z : Value} {e : TypeId} (h : H[p]? = some (.cells [a, b, c] e 3 .var)) (hp : prot ≤ p) (hv : [x, y, z].all isCell = true) :
    ∃ H', setCells H prot p 3 0 [x, y, z] = some H' ∧ getCells H' p 3 0 3 = some [x, y, z] ∧ Stay (some p) H H' ∧ H'[p]? = some (.cells [x, y, z] e 3 .var) := by
  have hl := (List.getElem?_eq_some_iff.1 h).1
  have hg : (H.set p (.cells [x, y, z] e 3 .var))[p]? = some (.cells [x, y, z] e 3 .var) := List.getElem?_set_self hl
  exact ⟨_, setAll3 h hp hv, (fld3 hg).2.2.2, ⟨by simp, fun q _ hq => List.getElem?_set_ne (fun e => hq (by rw [e]))⟩, hg⟩

theorem c37 {k : Nat} {xs : List Int} {bs : List Bool} {vN vA : Value} (hG : Good k xs bs) (prot : Nat) (H : AHeap) (hA : IsA H xs bs vN vA) :
    callInf cfg 37 [av k vN vA] prot H = some (.tuple #[.bool (boundV k xs bs).1, pv (boundV k xs bs).2], H) := by
  have hb1 := hG.n1
  have hb5 := hG.n5
  obtain ⟨B0, hB0⟩ : ∃ B0, B0 = AObj.cells [.string ByteArray.empty, .string ByteArray.empty, .string ByteArray.empty] 29 3 .var := ⟨_, rfl⟩
  obtain ⟨HX, hHX⟩ : ∃ HX, HX = H ++ [bx k vN vA] ++ [B0] := ⟨_, rfl⟩
  have lX : HX.length = H.length + 2 := by rw [hHX]; simp
  have sX : Stay none H HX := by rw [hHX]; exact (Stay.app none H _).trans (Stay.app none _ _)
  have hgX : HX[H.length]? = some (bx k vN vA) := by rw [hHX, List.getElem?_append_left (by simp)]; exact append_get.1
  have hgX1 : HX[H.length + 1]? = some B0 := by rw [hHX, List.getElem?_append_right (by simp)]; simp
  have hAX := hA.stay sX
  obtain ⟨p1, d1, H1, r1, r2, r3⟩ := c53 hG H.length HX hAX
  obtain ⟨x, y, p2, q2, c2, d2, H2, s1, rfl, rfl, s2, s3, s4, s5⟩ := c65 hG (a := 0) (by omega) true H.length H1 (hAX.stay r3)
  have hg1 : H1[H.length]? = some (bx k vN vA) := by rw [r3.2 _ (by omega) (by simp)]; exact hgX
  have st2 := r3.trans s4
  have hg2 : H2[H.length]? = some (bx k vN vA) := by rw [st2.2 _ (by omega) (by simp)]; exact hgX
  have l2 := st2.1
  obtain ⟨H3, t1, t2⟩ := loop37a hG (prot := prot) (x3 := .pointer (some ⟨H.length + 1, 0, some 3⟩)) (useL_len k xs bs) bs.length 0 none H2 (by omega) (fun t h => by cases h) hg2 (hAX.stay st2) (by omega) ⟨_, _, _, rfl⟩ (r2.stay s4 (fun id _ h => by cases h)) s2
  have st3 := st2.trans t2
  have l3 := st3.1
  have hg3 : H3[H.length]? = some (bx k vN vA) := by rw [st3.2 _ (by omega) (by simp)]; exact hgX
  have hg31 : H3[H.length + 1]? = some B0 := by rw [st3.2 _ (by omega) (by simp)]; exact hgX1
  have hA3 := hAX.stay st3
  rw [show pick (okB k xs bs.length (useL k xs bs)) (wd0 k xs bs.length 0) bs.length 0 none = bestV k xs bs from rfl] at t1
  have e1 : (H ++ [bx k vN vA]).length = H.length + 1 := by simp
  obtain ⟨aN, cN, rfl⟩ := hA.n.len
  obtain ⟨aA, cA, rfl⟩ := hA.a.len
  obtain ⟨_, _, _, gX⟩ := fld3 hgX
  obtain ⟨_, _, _, g1⟩ := fld3 hg1
  cases hbv : bestV k xs bs with
  | none =>
    rw [hbv] at t1
    rw [hB0] at hg31
    obtain ⟨H4, u1, u2, _, _⟩ := set3s hg31 (show H.length ≤ H.length + 1 by omega) (x := .string ByteArray.empty) (y := .string ByteArray.empty) (z := .string ByteArray.empty) rfl
    have hv : boundV k xs bs = (true, ByteArray.empty, ByteArray.empty, ByteArray.empty) := by unfold boundV; rw [hbv]
    rw [hv]
    subst hHX; subst hB0
    rw [← e1] at t1 u1 u2
    exact f37_F_0 all3 gX r1 g1 s1 t1 (by decide) rfl u1 u2
  | some b =>
    rw [hbv] at t1
    obtain ⟨hb, _, e, he1, he2, he3⟩ := best_end hG hbv
    obtain ⟨x4, y4, p4, q4, c4, d4, H4, v1, rfl, rfl, v2, v3, v4, v5⟩ := c65 hG hb false H.length H3 hA3
    obtain ⟨x5, y5, p5, q5, c5, d5, H5, w1, rfl, rfl, w2, w3, w4, w5⟩ := c65 hG hb true H.length H4 (hA3.stay v4)
    have st5 := st3.trans (v4.trans w4)
    have l5 := st5.1
    have hg4 : H4[H.length]? = some (bx k (.slice aN xs.length cN) (.slice aA bs.length cA)) := by rw [(st3.trans v4).2 _ (by omega) (by simp)]; exact hgX
    have hg5 : H5[H.length]? = some (bx k (.slice aN xs.length cN) (.slice aA bs.length cA)) := by rw [st5.2 _ (by omega) (by simp)]; exact hgX
    have hg51 : H5[H.length + 1]? = some B0 := by rw [st5.2 _ (by omega) (by simp)]; exact hgX1
    have hA5 := hAX.stay st5
    have hl := loop37b hG hb (prot := prot) (x3 := .pointer (some ⟨H.length + 1, 0, some 3⟩)) (x5 := .slice p2 bs.length c2) (x11 := .slice p4 bs.length c4) (x7 := (b : Int)) hg5 hA5 ⟨_, _, _, rfl⟩ ⟨_, _, _, rfl⟩ ⟨_, _, _, rfl⟩ w2 w3 bs.length 0 none (by omega) (fun t h => by cases h)
    rw [show pick (okE k xs bs b) (wd0 k xs bs.length b) bs.length 0 none = endV k xs bs b from rfl, he1] at hl
    have hok0 := bfs_ok hG (show 0 < bs.length by omega) true
    have hokf := bfs_ok hG hb false
    have hokt := bfs_ok hG hb true
    have o5 := s2.stay (t2.trans (v4.trans w4)) (fun id _ h => by cases h)
    have o11 := v2.stay w4 (fun id _ h => by cases h)
    obtain ⟨_, ee, y1, y2⟩ := own_at T43 o5 (sl_at (show b < (bfs k xs bs.length 0 true).ws.length by rw [hok0.lw]; exact hb))
    cases ee
    obtain ⟨_, ee, z1, z2⟩ := own_at T43 o11 (sl_at (show b < (bfs k xs bs.length b false).ws.length by rw [hokf.lw]; exact hb))
    cases ee
    obtain ⟨_, ee, q1, q2'⟩ := own_at T43 w2 (sl_at (show e < (bfs k xs bs.length b true).ws.length by rw [hokt.lw]; exact he2))
    cases ee
    rw [hB0] at hg51
    obtain ⟨H6, u1, u2, _, _⟩ := set3s hg51 (show H.length ≤ H.length + 1 by omega) (x := .string (wd0 k xs bs.length 0 b)) (y := .string (lw ((bfs k xs bs.length b false).ws.getD b []))) (z := .string (wd0 k xs bs.length b e)) rfl
    have hv : boundV k xs bs = (false, wd0 k xs bs.length 0 b, lw ((bfs k xs bs.length b false).ws.getD b []), wd0 k xs bs.length b e) := by unfold boundV; rw [hbv]; simp only; rw [he1]; rfl
    rw [hv]
    obtain ⟨_, _, _, g3⟩ := fld3 hg3
    obtain ⟨_, _, _, g4⟩ := fld3 hg4
    obtain ⟨_, _, g5, _⟩ := fld3 hg5
    subst hHX; subst hB0
    rw [← e1] at t1 u1 u2 hl
    exact f37_F_1 all3 gX r1 g1 s1 t1 (by simp only [bi]; omega) g3 v1 g4 w1 g5 hl y1 y2 z1 z2 q1 q2' rfl u1 u2

/-- What Finite answers. -/
noncomputable def finV (k : Int) (xs : List Int) (bs : List Bool) : Bool × (ByteArray × ByteArray × ByteArray) × Int :=
  if chkG k xs bs = 0 then ((boundV k.toNat xs bs).1, (boundV k.toNat xs bs).2, 0) else (false, (ByteArray.empty, ByteArray.empty, ByteArray.empty), chkG k xs bs)
theorem c13 {k : Int} {xs : List Int} {bs : List Bool} {vN vA : Value} (prot : Nat) (H : AHeap) (hA : IsA H xs bs vN vA) :
    callInf cfg 13 [av k vN vA] prot H = some (.tuple #[.bool (finV k xs bs).1, pv (finV k xs bs).2.1, .int .i64 (finV k xs bs).2.2], H) := by
  obtain ⟨B0, hB0⟩ : ∃ B0, B0 = AObj.cells [.string ByteArray.empty, .string ByteArray.empty, .string ByteArray.empty] 29 3 .var := ⟨_, rfl⟩
  obtain ⟨HX, hHX⟩ : ∃ HX, HX = H ++ [bx k vN vA] ++ [B0] := ⟨_, rfl⟩
  have lX : HX.length = H.length + 2 := by rw [hHX]; simp
  have sX : Stay none H HX := by rw [hHX]; exact (Stay.app none H _).trans (Stay.app none _ _)
  have hgX : HX[H.length]? = some (bx k vN vA) := by rw [hHX, List.getElem?_append_left (by simp)]; exact append_get.1
  have hgX1 : HX[H.length + 1]? = some B0 := by rw [hHX, List.getElem?_append_right (by simp)]; simp
  have hAX := hA.stay sX
  have hck := c36 (k := k) H.length HX hAX
  have e1 : (H ++ [bx k vN vA]).length = H.length + 1 := by simp
  by_cases h0 : chkG k xs bs = 0
  · obtain ⟨k', rfl, hG⟩ := good_of h0
    have hb := c37 hG H.length HX hAX
    have hv : finV k' xs bs = ((boundV k' xs bs).1, (boundV k' xs bs).2, 0) := by unfold finV; rw [if_pos h0, Int.toNat_natCast]
    rw [hv]
    rw [h0] at hck
    obtain ⟨aN, cN, rfl⟩ := hA.n.len
    obtain ⟨aA, cA, rfl⟩ := hA.a.len
    obtain ⟨_, _, _, gX⟩ := fld3 hgX
    have hgY : (HX ++ [B0])[HX.length]? = some B0 := append_get.1
    rw [hB0] at hgY
    obtain ⟨H1, u1, u2, u3, _⟩ := set3s hgY (show H.length ≤ HX.length by omega) (x := .string (boundV k' xs bs).2.1) (y := .string (boundV k' xs bs).2.2.1) (z := .string (boundV k' xs bs).2.2.2) rfl
    have hg1 : H1[H.length + 1]? = some B0 := by
      rw [u3.2 _ (by simp; omega) (fun h => by have := Option.some.inj h; omega), List.getElem?_append_left (by omega)]; exact hgX1
    rw [hB0] at hg1
    obtain ⟨H2, v1, v2, v3, _⟩ := set3s hg1 (show H.length ≤ H.length + 1 by omega) (x := .string (boundV k' xs bs).2.1) (y := .string (boundV k' xs bs).2.2.1) (z := .string (boundV k' xs bs).2.2.2) rfl
    subst hHX; subst hB0
    rw [← e1] at v1 v2
    exact f13_F_1 all3 gX hck rfl gX hb rfl u1 u2 rfl v1 v2
  · have hv : finV k xs bs = (false, (ByteArray.empty, ByteArray.empty, ByteArray.empty), chkG k xs bs) := by unfold finV; rw [if_neg h0]
    rw [hv]
    obtain ⟨aN, cN, rfl⟩ := hA.n.len
    obtain ⟨aA, cA, rfl⟩ := hA.a.len
    obtain ⟨_, _, _, gX⟩ := fld3 hgX
    rw [hB0] at hgX1
    obtain ⟨H2, v1, v2, v3, _⟩ := set3s hgX1 (show H.length ≤ H.length + 1 by omega) (x := .string ByteArray.empty) (y := .string ByteArray.empty) (z := .string ByteArray.empty) rfl
    subst hHX; subst hB0
    rw [← e1] at v1 v2
    exact f13_F_0 all3 gX hck (by simpa using h0) rfl v1 v2
end Go.Proofs.Ythjkodbinkiifaa.Am23
set_option linter.unusedVariables false
open Go Go.Proofs.Ythjkodbinkiifaa.Am
namespace Go.Proofs.Ythjkodbinkiifaa.Am23
theorem f4_F_0 {x0a : Int} {x0ba : Option Addr} {x0bn : Nat} {x0bc : Nat} {x0ca : Option Addr} {x0cn : Nat} {x0cc : Nat} {x1 : Int} {H : AHeap} {prot : Nat} {x11a : Int} {x11ba : Option Addr} {x11bn : Nat} {x11bc : Nat} {x11ca : Option Addr} {x11cn : Nat} {x11cc : Nat} {x12 : Bool} {x15 : Bool} {z1 : Int} {z2p : Nat} {z2o : Nat} {z2l : Nat} {z4 : Value} {z5 : Int} {H1 : AHeap} {x40a : Int} {x40ba : Option Addr} {x40bn : Nat} {x40bc : Nat} {x40ca : Option Addr} {x40cn : Nat} {x40cc : Nat} {x42a : Int} {x42b : Int} {x46a : Int} {x46ba : Option Addr} {x46bn : Nat} {x46bc : Nat} {x46ca : Option Addr} {x46cn : Nat} {x46cc : Nat} {x47a : Int} {x47ba : Option Addr} {x47bn : Nat} {x47bc : Nat} {x47ca : Option Addr} {x47cn : Nat} {x47cc : Nat} {H2 : AHeap} {x49a : Int} {x49b : Int} {x53 : Int} {x55 : Int} (h1 : [Value.int IntKind.i64 x0a, Value.slice x0ba x0bn x0bc, Value.slice x0ca x0cn x0cc].all isCell = true) (h2 : getCells (H ++ [AObj.cells [Value.int IntKind.i64 x0a, Value.slice x0ba x0bn x0bc, Value.slice x0ca x0cn x0cc] 25 [Value.int IntKind.i64 x0a, Value.slice x0ba x0bn x0bc, Value.slice x0ca x0cn x0cc].length OMode.var]) (List.length H) [Value.int IntKind.i64 x0a, Value.slice x0ba x0bn x0bc, Value.slice x0ca x0cn x0cc].length 0 3 = some [Value.int IntKind.i64 x11a, Value.slice x11ba x11bn x11bc, Value.slice x11ca x11cn x11cc]) (h3 : callInf cfg 11 [Value.agg { toList := [Value.int IntKind.i64 x11a, Value.slice x11ba x11bn x11bc, Value.slice x11ca x11cn x11cc] }] (List.length H) (H ++ [AObj.cells [Value.int IntKind.i64 x0a, Value.slice x0ba x0bn x0bc, Value.slice x0ca x0cn x0cc] 25 [Value.int IntKind.i64 x0a, Value.slice x0ba x0bn x0bc, Value.slice x0ca x0cn x0cc].length OMode.var]) = some (Value.bool x12, H ++ [AObj.cells [Value.int IntKind.i64 x0a, Value.slice x0ba x0bn x0bc, Value.slice x0ca x0cn x0cc] 25 [Value.int IntKind.i64 x0a, Value.slice x0ba x0bn x0bc, Value.slice x0ca x0cn x0cc].length OMode.var])) (h4 : (!x12) = false) (h5 : callInf cfg 12 [] (List.length H) (H ++ [AObj.cells [Value.int IntKind.i64 x0a, Value.slice x0ba x0bn x0bc, Value.slice x0ca x0cn x0cc] 25 [Value.int IntKind.i64 x0a, Value.slice x0ba x0bn x0bc, Value.slice x0ca x0cn x0cc].length OMode.var]) = some (Value.bool x15, H ++ [AObj.cells [Value.int IntKind.i64 x0a, Value.slice x0ba x0bn x0bc, Value.slice x0ca x0cn x0cc] 25 [Value.int IntKind.i64 x0a, Value.slice x0ba x0bn x0bc, Value.slice x0ca x0cn x0cc].length OMode.var])) (h6 : (!x15) = false) (h7 : Fit IntKind.i64 (x1.tmod 70 + 70)) (h8 : lpInf (lpOf cfg a4 0 prot H) ([Value.int IntKind.i64 ((x1.tmod 70 + 70).tmod 70), Value.pointer (some { block := List.length H, off := 0, spot := some [Value.int IntKind.i64 x0a, Value.slice x0ba x0bn x0bc, Value.slice x0ca x0cn x0cc].length }), Value.int IntKind.u64 1, Value.int IntKind.i64 0], H ++ [AObj.cells [Value.int IntKind.i64 x0a, Value.slice x0ba x0bn x0bc, Value.slice x0ca x0cn x0cc] 25 [Value.int IntKind.i64 x0a, Value.slice x0ba x0bn x0bc, Value.slice x0ca x0cn x0cc].length OMode.var]) = some (Ex.exit 0, [Value.int IntKind.i64 z1, Value.pointer (some { block := z2p, off := z2o, spot := some z2l }), z4, Value.int IntKind.u64 z5], H1)) (h9 : getCells H1 z2p z2l z2o 3 = some [Value.int IntKind.i64 x40a, Value.slice x40ba x40bn x40bc, Value.slice x40ca x40cn x40cc]) (h10 : callInf cfg 14 [Value.agg { toList := [Value.int IntKind.i64 x40a, Value.slice x40ba x40bn x40bc, Value.slice x40ca x40cn x40cc] }, Value.int IntKind.i64 z1] (List.length H) H1 = some (Value.tuple { toList := [Value.int IntKind.u64 x42a, Value.int IntKind.i64 x42b] }, H1)) (h11 : getCells H1 z2p z2l z2o 3 = some [Value.int IntKind.i64 x46a, Value.slice x46ba x46bn x46bc, Value.slice x46ca x46cn x46cc]) (h12 : callInf cfg 16 [Value.agg { toList := [Value.int IntKind.i64 x46a, Value.slice x46ba x46bn x46bc, Value.slice x46ca x46cn x46cc] }] (List.length H) H1 = some (Value.agg { toList := [Value.int IntKind.i64 x47a, Value.slice x47ba x47bn x47bc, Value.slice x47ca x47cn x47cc] }, H2)) (h13 : callInf cfg 14 [Value.agg { toList := [Value.int IntKind.i64 x47a, Value.slice x47ba x47bn x47bc, Value.slice x47ca x47cn x47cc] }, Value.int IntKind.i64 z1] (List.length H) H2 = some (Value.tuple { toList := [Value.int IntKind.u64 x49a, Value.int IntKind.i64 x49b] }, H2)) (h14 : callInf cfg 15 [Value.int IntKind.i64 x42b] (List.length H) H2 = some (Value.int IntKind.i64 x53, H2)) (h15 : callInf cfg 15 [Value.int IntKind.i64 x49b] (List.length H) H2 = some (Value.int IntKind.i64 x55, H2)) (h16 : Fit IntKind.i64 (x53 + x55)) (h17 : (x53 + x55 == 0) = true) (h18 : x42a ≤ z5) : callInf cfg 4 [.agg #[.int .i64 x0a, .slice x0ba x0bn x0bc, .slice x0ca x0cn x0cc], .int .i64 x1] prot H = some (Value.bool (x49a == IntKind.u64.wrap (z5 - x42a)), H) :=
  fn_of a4 [.e, .v (.agg #[.int .i64 x11a, .slice x11ba x11bn x11bc, .slice x11ca x11cn x11cc]), .v (.bool x12), .e, .b false, .v (.bool x15), .b false, .e, .b false, .b false, .e, .e, .e, .lo (.exit 0, [.int .i64 z1, .pointer (some ⟨z2p, z2o, some z2l⟩), z4, .int .u64 z5], H1), .v (.agg #[.int .i64 x40a, .slice x40ba x40bn x40bc, .slice x40ca x40cn x40cc]), .v (.tuple #[.int .u64 x42a, .int .i64 x42b]), .v (.agg #[.int .i64 x46a, .slice x46ba x46bn x46bc, .slice x46ca x46cn x46cc]), .r (.agg #[.int .i64 x47a, .slice x47ba x47bn x47bc, .slice x47ca x47cn x47cc]) H2, .v (.tuple #[.int .u64 x49a, .int .i64 x49b]), .v (.int .i64 x53), .v (.int .i64 x55), .e, .e, .b true, .b true, .b true, .e, .b true, .b true, .b true, .b true, .b true, .e, .b true, .e, .b true] (fun e => ([Value.int IntKind.i64 x0a, Value.slice x0ba x0bn x0bc, Value.slice x0ca x0cn x0cc].all isCell = true) ∧ (getCells (H ++ [AObj.cells [Value.int IntKind.i64 x0a, Value.slice x0ba x0bn x0bc, Value.slice x0ca x0cn x0cc] 25 [Value.int IntKind.i64 x0a, Value.slice x0ba x0bn x0bc, Value.slice x0ca x0cn x0cc].length OMode.var]) (List.length H) [Value.int IntKind.i64 x0a, Value.slice x0ba x0bn x0bc, Value.slice x0ca x0cn x0cc].length 0 3 = some [Value.int IntKind.i64 x11a, Value.slice x11ba x11bn x11bc, Value.slice x11ca x11cn x11cc]) ∧ (callInf cfg 11 [Value.agg { toList := [Value.int IntKind.i64 x11a, Value.slice x11ba x11bn x11bc, Value.slice x11ca x11cn x11cc] }] (List.length H) (H ++ [AObj.cells [Value.int IntKind.i64 x0a, Value.slice x0ba x0bn x0bc, Value.slice x0ca x0cn x0cc] 25 [Value.int IntKind.i64 x0a, Value.slice x0ba x0bn x0bc, Value.slice x0ca x0cn x0cc].length OMode.var]) = some (Value.bool x12, H ++ [AObj.cells [Value.int IntKind.i64 x0a, Value.slice x0ba x0bn x0bc, Value.slice x0ca x0cn x0cc] 25 [Value.int IntKind.i64 x0a, Value.slice x0ba x0bn x0bc, Value.slice x0ca x0cn x0cc].length OMode.var])) ∧ ((!x12) = false) ∧ (callInf cfg 12 [] (List.length H) (H ++ [AObj.cells [Value.int IntKind.i64 x0a, Value.slice x0ba x0bn x0bc, Value.slice x0ca x0cn x0cc] 25 [Value.int IntKind.i64 x0a, Value.slice x0ba x0bn x0bc, Value.slice x0ca x0cn x0cc].length OMode.var]) = some (Value.bool x15, H ++ [AObj.cells [Value.int IntKind.i64 x0a, Value.slice x0ba x0bn x0bc, Value.slice x0ca x0cn x0cc] 25 [Value.int IntKind.i64 x0a, Value.slice x0ba x0bn x0bc, Value.slice x0ca x0cn x0cc].length OMode.var])) ∧ ((!x12) = false) ∧ ((!x12) = false) ∧ ((!x15) = false) ∧ ((70 : Int) ≠ 0) ∧ (Fit IntKind.i64 (x1.tmod 70 + 70)) ∧ ((70 : Int) ≠ 0) ∧ (lpInf (lpOf cfg a4 0 prot H) ([Value.int IntKind.i64 ((x1.tmod 70 + 70).tmod 70), Value.pointer (some { block := List.length H, off := 0, spot := some [Value.int IntKind.i64 x0a, Value.slice x0ba x0bn x0bc, Value.slice x0ca x0cn x0cc].length }), Value.int IntKind.u64 1, Value.int IntKind.i64 0], H ++ [AObj.cells [Value.int IntKind.i64 x0a, Value.slice x0ba x0bn x0bc, Value.slice x0ca x0cn x0cc] 25 [Value.int IntKind.i64 x0a, Value.slice x0ba x0bn x0bc, Value.slice x0ca x0cn x0cc].length OMode.var]) = some (Ex.exit 0, [Value.int IntKind.i64 z1, Value.pointer (some { block := z2p, off := z2o, spot := some z2l }), z4, Value.int IntKind.u64 z5], H1)) ∧ (getCells H1 z2p z2l z2o 3 = some [Value.int IntKind.i64 x40a, Value.slice x40ba x40bn x40bc, Value.slice x40ca x40cn x40cc]) ∧ (callInf cfg 14 [Value.agg { toList := [Value.int IntKind.i64 x40a, Value.slice x40ba x40bn x40bc, Value.slice x40ca x40cn x40cc] }, Value.int IntKind.i64 z1] (List.length H) H1 = some (Value.tuple { toList := [Value.int IntKind.u64 x42a, Value.int IntKind.i64 x42b] }, H1)) ∧ (getCells H1 z2p z2l z2o 3 = some [Value.int IntKind.i64 x46a, Value.slice x46ba x46bn x46bc, Value.slice x46ca x46cn x46cc]) ∧ (callInf cfg 16 [Value.agg { toList := [Value.int IntKind.i64 x46a, Value.slice x46ba x46bn x46bc, Value.slice x46ca x46cn x46cc] }] (List.length H) H1 = some (Value.agg { toList := [Value.int IntKind.i64 x47a, Value.slice x47ba x47bn x47bc, Value.slice x47ca x47cn x47cc] }, H2)) ∧ (callInf cfg 14 [Value.agg { toList := [Value.int IntKind.i64 x47a, Value.slice x47ba x47bn x47bc, Value.slice x47ca x47cn x47cc] }, Value.int IntKind.i64 z1] (List.length H) H2 = some (Value.tuple { toList := [Value.int IntKind.u64 x49a, Value.int IntKind.i64 x49b] }, H2)) ∧ (callInf cfg 15 [Value.int IntKind.i64 x42b] (List.length H) H2 = some (Value.int IntKind.i64 x53, H2)) ∧ (callInf cfg 15 [Value.int IntKind.i64 x49b] (List.length H) H2 = some (Value.int IntKind.i64 x55, H2)) ∧ (Fit IntKind.i64 (x53 + x55)) ∧ ((x53 + x55 == 0) = true) ∧ ((x53 + x55 == 0) = true) ∧ ((x53 + x55 == 0) = true) ∧ ((x53 + x55 == 0) = true) ∧ (decide (x42a ≤ z5) = true) ∧ (decide (x42a ≤ z5) = true) ∧ (decide (x42a ≤ z5) = true) ∧ (decide (x42a ≤ z5) = true) ∧ (decide (x42a ≤ z5) = true) ∧ (decide (x42a ≤ z5) = true) ∧ e) (by kernel_rfl) ⟨h1, h2, h3, h4, h5, h4, h4, h6, (by decide), h7, (by decide), h8, h9, h10, h11, h12, h13, h14, h15, h16, h17, h17, h17, h17, decide_eq_true h18, decide_eq_true h18, decide_eq_true h18, decide_eq_true h18, decide_eq_true h18, decide_eq_true h18, rfl⟩ rfl
theorem f4_F_1 {x0a : Int} {x0ba : Option Addr} {x0bn : Nat} {x0bc : Nat} {x0ca : Option Addr} {x0cn : Nat} {x0cc : Nat} {x1 : Int} {H : AHeap} {prot : Nat} {x11a : Int} {x11ba : Option Addr} {x11bn : Nat} {x11bc : Nat} {x11ca : Option Addr} {x11cn : Nat} {x11cc : Nat} {x12 : Bool} {x15 : Bool} {z1 : Int} {z2p : Nat} {z2o : Nat} {z2l : Nat} {z4 : Value} {z5 : Int} {H1 : AHeap} {x40a : Int} {x40ba : Option Addr} {x40bn : Nat} {x40bc : Nat} {x40ca : Option Addr} {x40cn : Nat} {x40cc : Nat} {x42a : Int} {x42b : Int} {x46a : Int} {x46ba : Option Addr} {x46bn : Nat} {x46bc : Nat} {x46ca : Option Addr} {x46cn : Nat} {x46cc : Nat} {x47a : Int} {x47ba : Option Addr} {x47bn : Nat} {x47bc : Nat} {x47ca : Option Addr} {x47cn : Nat} {x47cc : Nat} {H2 : AHeap} {x49a : Int} {x49b : Int} {x53 : Int} {x55 : Int} (h1 : [Value.int IntKind.i64 x0a, Value.slice x0ba x0bn x0bc, Value.slice x0ca x0cn x0cc].all isCell = true) (h2 : getCells (H ++ [AObj.cells [Value.int IntKind.i64 x0a, Value.slice x0ba x0bn x0bc, Value.slice x0ca x0cn x0cc] 25 [Value.int IntKind.i64 x0a, Value.slice x0ba x0bn x0bc, Value.slice x0ca x0cn x0cc].length OMode.var]) (List.length H) [Value.int IntKind.i64 x0a, Value.slice x0ba x0bn x0bc, Value.slice x0ca x0cn x0cc].length 0 3 = some [Value.int IntKind.i64 x11a, Value.slice x11ba x11bn x11bc, Value.slice x11ca x11cn x11cc]) (h3 : callInf cfg 11 [Value.agg { toList := [Value.int IntKind.i64 x11a, Value.slice x11ba x11bn x11bc, Value.slice x11ca x11cn x11cc] }] (List.length H) (H ++ [AObj.cells [Value.int IntKind.i64 x0a, Value.slice x0ba x0bn x0bc, Value.slice x0ca x0cn x0cc] 25 [Value.int IntKind.i64 x0a, Value.slice x0ba x0bn x0bc, Value.slice x0ca x0cn x0cc].length OMode.var]) = some (Value.bool x12, H ++ [AObj.cells [Value.int IntKind.i64 x0a, Value.slice x0ba x0bn x0bc, Value.slice x0ca x0cn x0cc] 25 [Value.int IntKind.i64 x0a, Value.slice x0ba x0bn x0bc, Value.slice x0ca x0cn x0cc].length OMode.var])) (h4 : (!x12) = false) (h5 : callInf cfg 12 [] (List.length H) (H ++ [AObj.cells [Value.int IntKind.i64 x0a, Value.slice x0ba x0bn x0bc, Value.slice x0ca x0cn x0cc] 25 [Value.int IntKind.i64 x0a, Value.slice x0ba x0bn x0bc, Value.slice x0ca x0cn x0cc].length OMode.var]) = some (Value.bool x15, H ++ [AObj.cells [Value.int IntKind.i64 x0a, Value.slice x0ba x0bn x0bc, Value.slice x0ca x0cn x0cc] 25 [Value.int IntKind.i64 x0a, Value.slice x0ba x0bn x0bc, Value.slice x0ca x0cn x0cc].length OMode.var])) (h6 : (!x15) = false) (h7 : Fit IntKind.i64 (x1.tmod 70 + 70)) (h8 : lpInf (lpOf cfg a4 0 prot H) ([Value.int IntKind.i64 ((x1.tmod 70 + 70).tmod 70), Value.pointer (some { block := List.length H, off := 0, spot := some [Value.int IntKind.i64 x0a, Value.slice x0ba x0bn x0bc, Value.slice x0ca x0cn x0cc].length }), Value.int IntKind.u64 1, Value.int IntKind.i64 0], H ++ [AObj.cells [Value.int IntKind.i64 x0a, Value.slice x0ba x0bn x0bc, Value.slice x0ca x0cn x0cc] 25 [Value.int IntKind.i64 x0a, Value.slice x0ba x0bn x0bc, Value.slice x0ca x0cn x0cc].length OMode.var]) = some (Ex.exit 0, [Value.int IntKind.i64 z1, Value.pointer (some { block := z2p, off := z2o, spot := some z2l }), z4, Value.int IntKind.u64 z5], H1)) (h9 : getCells H1 z2p z2l z2o 3 = some [Value.int IntKind.i64 x40a, Value.slice x40ba x40bn x40bc, Value.slice x40ca x40cn x40cc]) (h10 : callInf cfg 14 [Value.agg { toList := [Value.int IntKind.i64 x40a, Value.slice x40ba x40bn x40bc, Value.slice x40ca x40cn x40cc] }, Value.int IntKind.i64 z1] (List.length H) H1 = some (Value.tuple { toList := [Value.int IntKind.u64 x42a, Value.int IntKind.i64 x42b] }, H1)) (h11 : getCells H1 z2p z2l z2o 3 = some [Value.int IntKind.i64 x46a, Value.slice x46ba x46bn x46bc, Value.slice x46ca x46cn x46cc]) (h12 : callInf cfg 16 [Value.agg { toList := [Value.int IntKind.i64 x46a, Value.slice x46ba x46bn x46bc, Value.slice x46ca x46cn x46cc] }] (List.length H) H1 = some (Value.agg { toList := [Value.int IntKind.i64 x47a, Value.slice x47ba x47bn x47bc, Value.slice x47ca x47cn x47cc] }, H2)) (h13 : callInf cfg 14 [Value.agg { toList := [Value.int IntKind.i64 x47a, Value.slice x47ba x47bn x47bc, Value.slice x47ca x47cn x47cc] }, Value.int IntKind.i64 z1] (List.length H) H2 = some (Value.tuple { toList := [Value.int IntKind.u64 x49a, Value.int IntKind.i64 x49b] }, H2)) (h14 : callInf cfg 15 [Value.int IntKind.i64 x42b] (List.length H) H2 = some (Value.int IntKind.i64 x53, H2)) (h15 : callInf cfg 15 [Value.int IntKind.i64 x49b] (List.length H) H2 = some (Value.int IntKind.i64 x55, H2)) (h16 : Fit IntKind.i64 (x53 + x55)) (h17 : (x53 + x55 == 0) = true) (h18 : ¬(x42a ≤ z5)) : callInf cfg 4 [.agg #[.int .i64 x0a, .slice x0ba x0bn x0bc, .slice x0ca x0cn x0cc], .int .i64 x1] prot H = some (Value.bool false, H) :=
  fn_of a4 [.e, .v (.agg #[.int .i64 x11a, .slice x11ba x11bn x11bc, .slice x11ca x11cn x11cc]), .v (.bool x12), .e, .b false, .v (.bool x15), .b false, .e, .b false, .b false, .e, .e, .e, .lo (.exit 0, [.int .i64 z1, .pointer (some ⟨z2p, z2o, some z2l⟩), z4, .int .u64 z5], H1), .v (.agg #[.int .i64 x40a, .slice x40ba x40bn x40bc, .slice x40ca x40cn x40cc]), .v (.tuple #[.int .u64 x42a, .int .i64 x42b]), .v (.agg #[.int .i64 x46a, .slice x46ba x46bn x46bc, .slice x46ca x46cn x46cc]), .r (.agg #[.int .i64 x47a, .slice x47ba x47bn x47bc, .slice x47ca x47cn x47cc]) H2, .v (.tuple #[.int .u64 x49a, .int .i64 x49b]), .v (.int .i64 x53), .v (.int .i64 x55), .e, .e, .b true, .b true, .b true, .e, .b true, .b false, .b false, .b false, .b false, .b false, .b false] (fun e => ([Value.int IntKind.i64 x0a, Value.slice x0ba x0bn x0bc, Value.slice x0ca x0cn x0cc].all isCell = true) ∧ (getCells (H ++ [AObj.cells [Value.int IntKind.i64 x0a, Value.slice x0ba x0bn x0bc, Value.slice x0ca x0cn x0cc] 25 [Value.int IntKind.i64 x0a, Value.slice x0ba x0bn x0bc, Value.slice x0ca x0cn x0cc].length OMode.var]) (List.length H) [Value.int IntKind.i64 x0a, Value.slice x0ba x0bn x0bc, Value.slice x0ca x0cn x0cc].length 0 3 = some [Value.int IntKind.i64 x11a, Value.slice x11ba x11bn x11bc, Value.slice x11ca x11cn x11cc]) ∧ (callInf cfg 11 [Value.agg { toList := [Value.int IntKind.i64 x11a, Value.slice x11ba x11bn x11bc, Value.slice x11ca x11cn x11cc] }] (List.length H) (H ++ [AObj.cells [Value.int IntKind.i64 x0a, Value.slice x0ba x0bn x0bc, Value.slice x0ca x0cn x0cc] 25 [Value.int IntKind.i64 x0a, Value.slice x0ba x0bn x0bc, Value.slice x0ca x0cn x0cc].length OMode.var]) = some (Value.bool x12, H ++ [AObj.cells [Value.int IntKind.i64 x0a, Value.slice x0ba x0bn x0bc, Value.slice x0ca x0cn x0cc] 25 [Value.int IntKind.i64 x0a, Value.slice x0ba x0bn x0bc, Value.slice x0ca x0cn x0cc].length OMode.var])) ∧ ((!x12) = false) ∧ (callInf cfg 12 [] (List.length H) (H ++ [AObj.cells [Value.int IntKind.i64 x0a, Value.slice x0ba x0bn x0bc, Value.slice x0ca x0cn x0cc] 25 [Value.int IntKind.i64 x0a, Value.slice x0ba x0bn x0bc, Value.slice x0ca x0cn x0cc].length OMode.var]) = some (Value.bool x15, H ++ [AObj.cells [Value.int IntKind.i64 x0a, Value.slice x0ba x0bn x0bc, Value.slice x0ca x0cn x0cc] 25 [Value.int IntKind.i64 x0a, Value.slice x0ba x0bn x0bc, Value.slice x0ca x0cn x0cc].length OMode.var])) ∧ ((!x12) = false) ∧ ((!x12) = false) ∧ ((!x15) = false) ∧ ((70 : Int) ≠ 0) ∧ (Fit IntKind.i64 (x1.tmod 70 + 70)) ∧ ((70 : Int) ≠ 0) ∧ (lpInf (lpOf cfg a4 0 prot H) ([Value.int IntKind.i64 ((x1.tmod 70 + 70).tmod 70), Value.pointer (some { block := List.length H, off := 0, spot := some [Value.int IntKind.i64 x0a, Value.slice x0ba x0bn x0bc, Value.slice x0ca x0cn x0cc].length }), Value.int IntKind.u64 1, Value.int IntKind.i64 0], H ++ [AObj.cells [Value.int IntKind.i64 x0a, Value.slice x0ba x0bn x0bc, Value.slice x0ca x0cn x0cc] 25 [Value.int IntKind.i64 x0a, Value.slice x0ba x0bn x0bc, Value.slice x0ca x0cn x0cc].length OMode.var]) = some (Ex.exit 0, [Value.int IntKind.i64 z1, Value.pointer (some { block := z2p, off := z2o, spot := some z2l }), z4, Value.int IntKind.u64 z5], H1)) ∧ (getCells H1 z2p z2l z2o 3 = some [Value.int IntKind.i64 x40a, Value.slice x40ba x40bn x40bc, Value.slice x40ca x40cn x40cc]) ∧ (callInf cfg 14 [Value.agg { toList := [Value.int IntKind.i64 x40a, Value.slice x40ba x40bn x40bc, Value.slice x40ca x40cn x40cc] }, Value.int IntKind.i64 z1] (List.length H) H1 = some (Value.tuple { toList := [Value.int IntKind.u64 x42a, Value.int IntKind.i64 x42b] }, H1)) ∧ (getCells H1 z2p z2l z2o 3 = some [Value.int IntKind.i64 x46a, Value.slice x46ba x46bn x46bc, Value.slice x46ca x46cn x46cc]) ∧ (callInf cfg 16 [Value.agg { toList := [Value.int IntKind.i64 x46a, Value.slice x46ba x46bn x46bc, Value.slice x46ca x46cn x46cc] }] (List.length H) H1 = some (Value.agg { toList := [Value.int IntKind.i64 x47a, Value.slice x47ba x47bn x47bc, Value.slice x47ca x47cn x47cc] }, H2)) ∧ (callInf cfg 14 [Value.agg { toList := [Value.int IntKind.i64 x47a, Value.slice x47ba x47bn x47bc, Value.slice x47ca x47cn x47cc] }, Value.int IntKind.i64 z1] (List.length H) H2 = some (Value.tuple { toList := [Value.int IntKind.u64 x49a, Value.int IntKind.i64 x49b] }, H2)) ∧ (callInf cfg 15 [Value.int IntKind.i64 x42b] (List.length H) H2 = some (Value.int IntKind.i64 x53, H2)) ∧ (callInf cfg 15 [Value.int IntKind.i64 x49b] (List.length H) H2 = some (Value.int IntKind.i64 x55, H2)) ∧ (Fit IntKind.i64 (x53 + x55)) ∧ ((x53 + x55 == 0) = true) ∧ ((x53 + x55 == 0) = true) ∧ ((x53 + x55 == 0) = true) ∧ ((x53 + x55 == 0) = true) ∧ (decide (x42a ≤ z5) = false) ∧ (decide (x42a ≤ z5) = false) ∧ (decide (x42a ≤ z5) = false) ∧ (decide (x42a ≤ z5) = false) ∧ (decide (x42a ≤ z5) = false) ∧ (decide (x42a ≤ z5) = false) ∧ e) (by kernel_rfl) ⟨h1, h2, h3, h4, h5, h4, h4, h6, (by decide), h7, (by decide), h8, h9, h10, h11, h12, h13, h14, h15, h16, h17, h17, h17, h17, decide_eq_false h18, decide_eq_false h18, decide_eq_false h18, decide_eq_false h18, decide_eq_false h18, decide_eq_false h18, rfl⟩ rfl
theorem f4_F_2 {x0a : Int} {x0ba : Option Addr} {x0bn : Nat} {x0bc : Nat} {x0ca : Option Addr} {x0cn : Nat} {x0cc : Nat} {x1 : Int} {H : AHeap} {prot : Nat} {x11a : Int} {x11ba : Option Addr} {x11bn : Nat} {x11bc : Nat} {x11ca : Option Addr} {x11cn : Nat} {x11cc : Nat} {x12 : Bool} {x15 : Bool} {z1 : Int} {z2p : Nat} {z2o : Nat} {z2l : Nat} {z4 : Value} {z5 : Int} {H1 : AHeap} {x40a : Int} {x40ba : Option Addr} {x40bn : Nat} {x40bc : Nat} {x40ca : Option Addr} {x40cn : Nat} {x40cc : Nat} {x42a : Int} {x42b : Int} {x46a : Int} {x46ba : Option Addr} {x46bn : Nat} {x46bc : Nat} {x46ca : Option Addr} {x46cn : Nat} {x46cc : Nat} {x47a : Int} {x47ba : Option Addr} {x47bn : Nat} {x47bc : Nat} {x47ca : Option Addr} {x47cn : Nat} {x47cc : Nat} {H2 : AHeap} {x49a : Int} {x49b : Int} {x53 : Int} {x55 : Int} (h1 : [Value.int IntKind.i64 x0a, Value.slice x0ba x0bn x0bc, Value.slice x0ca x0cn x0cc].all isCell = true) (h2 : getCells (H ++ [AObj.cells [Value.int IntKind.i64 x0a, Value.slice x0ba x0bn x0bc, Value.slice x0ca x0cn x0cc] 25 [Value.int IntKind.i64 x0a, Value.slice x0ba x0bn x0bc, Value.slice x0ca x0cn x0cc].length OMode.var]) (List.length H) [Value.int IntKind.i64 x0a, Value.slice x0ba x0bn x0bc, Value.slice x0ca x0cn x0cc].length 0 3 = some [Value.int IntKind.i64 x11a, Value.slice x11ba x11bn x11bc, Value.slice x11ca x11cn x11cc]) (h3 : callInf cfg 11 [Value.agg { toList := [Value.int IntKind.i64 x11a, Value.slice x11ba x11bn x11bc, Value.slice x11ca x11cn x11cc] }] (List.length H) (H ++ [AObj.cells [Value.int IntKind.i64 x0a, Value.slice x0ba x0bn x0bc, Value.slice x0ca x0cn x0cc] 25 [Value.int IntKind.i64 x0a, Value.slice x0ba x0bn x0bc, Value.slice x0ca x0cn x0cc].length OMode.var]) = some (Value.bool x12, H ++ [AObj.cells [Value.int IntKind.i64 x0a, Value.slice x0ba x0bn x0bc, Value.slice x0ca x0cn x0cc] 25 [Value.int IntKind.i64 x0a, Value.slice x0ba x0bn x0bc, Value.slice x0ca x0cn x0cc].length OMode.var])) (h4 : (!x12) = false) (h5 : callInf cfg 12 [] (List.length H) (H ++ [AObj.cells [Value.int IntKind.i64 x0a, Value.slice x0ba x0bn x0bc, Value.slice x0ca x0cn x0cc] 25 [Value.int IntKind.i64 x0a, Value.slice x0ba x0bn x0bc, Value.slice x0ca x0cn x0cc].length OMode.var]) = some (Value.bool x15, H ++ [AObj.cells [Value.int IntKind.i64 x0a, Value.slice x0ba x0bn x0bc, Value.slice x0ca x0cn x0cc] 25 [Value.int IntKind.i64 x0a, Value.slice x0ba x0bn x0bc, Value.slice x0ca x0cn x0cc].length OMode.var])) (h6 : (!x15) = false) (h7 : Fit IntKind.i64 (x1.tmod 70 + 70)) (h8 : lpInf (lpOf cfg a4 0 prot H) ([Value.int IntKind.i64 ((x1.tmod 70 + 70).tmod 70), Value.pointer (some { block := List.length H, off := 0, spot := some [Value.int IntKind.i64 x0a, Value.slice x0ba x0bn x0bc, Value.slice x0ca x0cn x0cc].length }), Value.int IntKind.u64 1, Value.int IntKind.i64 0], H ++ [AObj.cells [Value.int IntKind.i64 x0a, Value.slice x0ba x0bn x0bc, Value.slice x0ca x0cn x0cc] 25 [Value.int IntKind.i64 x0a, Value.slice x0ba x0bn x0bc, Value.slice x0ca x0cn x0cc].length OMode.var]) = some (Ex.exit 0, [Value.int IntKind.i64 z1, Value.pointer (some { block := z2p, off := z2o, spot := some z2l }), z4, Value.int IntKind.u64 z5], H1)) (h9 : getCells H1 z2p z2l z2o 3 = some [Value.int IntKind.i64 x40a, Value.slice x40ba x40bn x40bc, Value.slice x40ca x40cn x40cc]) (h10 : callInf cfg 14 [Value.agg { toList := [Value.int IntKind.i64 x40a, Value.slice x40ba x40bn x40bc, Value.slice x40ca x40cn x40cc] }, Value.int IntKind.i64 z1] (List.length H) H1 = some (Value.tuple { toList := [Value.int IntKind.u64 x42a, Value.int IntKind.i64 x42b] }, H1)) (h11 : getCells H1 z2p z2l z2o 3 = some [Value.int IntKind.i64 x46a, Value.slice x46ba x46bn x46bc, Value.slice x46ca x46cn x46cc]) (h12 : callInf cfg 16 [Value.agg { toList := [Value.int IntKind.i64 x46a, Value.slice x46ba x46bn x46bc, Value.slice x46ca x46cn x46cc] }] (List.length H) H1 = some (Value.agg { toList := [Value.int IntKind.i64 x47a, Value.slice x47ba x47bn x47bc, Value.slice x47ca x47cn x47cc] }, H2)) (h13 : callInf cfg 14 [Value.agg { toList := [Value.int IntKind.i64 x47a, Value.slice x47ba x47bn x47bc, Value.slice x47ca x47cn x47cc] }, Value.int IntKind.i64 z1] (List.length H) H2 = some (Value.tuple { toList := [Value.int IntKind.u64 x49a, Value.int IntKind.i64 x49b] }, H2)) (h14 : callInf cfg 15 [Value.int IntKind.i64 x42b] (List.length H) H2 = some (Value.int IntKind.i64 x53, H2)) (h15 : callInf cfg 15 [Value.int IntKind.i64 x49b] (List.length H) H2 = some (Value.int IntKind.i64 x55, H2)) (h16 : Fit IntKind.i64 (x53 + x55)) (h17 : (x53 + x55 == 0) = false) : callInf cfg 4 [.agg #[.int .i64 x0a, .slice x0ba x0bn x0bc, .slice x0ca x0cn x0cc], .int .i64 x1] prot H = some (Value.bool false, H) :=
  fn_of a4 [.e, .v (.agg #[.int .i64 x11a, .slice x11ba x11bn x11bc, .slice x11ca x11cn x11cc]), .v (.bool x12), .e, .b false, .v (.bool x15), .b false, .e, .b false, .b false, .e, .e, .e, .lo (.exit 0, [.int .i64 z1, .pointer (some ⟨z2p, z2o, some z2l⟩), z4, .int .u64 z5], H1), .v (.agg #[.int .i64 x40a, .slice x40ba x40bn x40bc, .slice x40ca x40cn x40cc]), .v (.tuple #[.int .u64 x42a, .int .i64 x42b]), .v (.agg #[.int .i64 x46a, .slice x46ba x46bn x46bc, .slice x46ca x46cn x46cc]), .r (.agg #[.int .i64 x47a, .slice x47ba x47bn x47bc, .slice x47ca x47cn x47cc]) H2, .v (.tuple #[.int .u64 x49a, .int .i64 x49b]), .v (.int .i64 x53), .v (.int .i64 x55), .e, .e, .b false, .b false, .b false, .b false, .b false, .b false, .b false, .b false, .b false, .b false] (fun e => ([Value.int IntKind.i64 x0a, Value.slice x0ba x0bn x0bc, Value.slice x0ca x0cn x0cc].all isCell = true) ∧ (getCells (H ++ [AObj.cells [Value.int IntKind.i64 x0a, Value.slice x0ba x0bn x0bc, Value.slice x0ca x0cn x0cc] 25 [Value.int IntKind.i64 x0a, Value.slice x0ba x0bn x0bc, Value.slice x0ca x0cn x0cc].length OMode.var]) (List.length H) [Value.int IntKind.i64 x0a, Value.slice x0ba x0bn x0bc, Value.slice x0ca x0cn x0cc].length 0 3 = some [Value.int IntKind.i64 x11a, Value.slice x11ba x11bn x11bc, Value.slice x11ca x11cn x11cc]) ∧ (callInf cfg 11 [Value.agg { toList := [Value.int IntKind.i64 x11a, Value.slice x11ba x11bn x11bc, Value.slice x11ca x11cn x11cc] }] (List.length H) (H ++ [AObj.cells [Value.int IntKind.i64 x0a, Value.slice x0ba x0bn x0bc, Value.slice x0ca x0cn x0cc] 25 [Value.int IntKind.i64 x0a, Value.slice x0ba x0bn x0bc, Value.slice x0ca x0cn x0cc].length OMode.var]) = some (Value.bool x12, H ++ [AObj.cells [Value.int IntKind.i64 x0a, Value.slice x0ba x0bn x0bc, Value.slice x0ca x0cn x0cc] 25 [Value.int IntKind.i64 x0a, Value.slice x0ba x0bn x0bc, Value.slice x0ca x0cn x0cc].length OMode.var])) ∧ ((!x12) = false) ∧ (callInf cfg 12 [] (List.length H) (H ++ [AObj.cells [Value.int IntKind.i64 x0a, Value.slice x0ba x0bn x0bc, Value.slice x0ca x0cn x0cc] 25 [Value.int IntKind.i64 x0a, Value.slice x0ba x0bn x0bc, Value.slice x0ca x0cn x0cc].length OMode.var]) = some (Value.bool x15, H ++ [AObj.cells [Value.int IntKind.i64 x0a, Value.slice x0ba x0bn x0bc, Value.slice x0ca x0cn x0cc] 25 [Value.int IntKind.i64 x0a, Value.slice x0ba x0bn x0bc, Value.slice x0ca x0cn x0cc].length OMode.var])) ∧ ((!x12) = false) ∧ ((!x12) = false) ∧ ((!x15) = false) ∧ ((70 : Int) ≠ 0) ∧ (Fit IntKind.i64 (x1.tmod 70 + 70)) ∧ ((70 : Int) ≠ 0) ∧ (lpInf (lpOf cfg a4 0 prot H) ([Value.int IntKind.i64 ((x1.tmod 70 + 70).tmod 70), Value.pointer (some { block := List.length H, off := 0, spot := some [Value.int IntKind.i64 x0a, Value.slice x0ba x0bn x0bc, Value.slice x0ca x0cn x0cc].length }), Value.int IntKind.u64 1, Value.int IntKind.i64 0], H ++ [AObj.cells [Value.int IntKind.i64 x0a, Value.slice x0ba x0bn x0bc, Value.slice x0ca x0cn x0cc] 25 [Value.int IntKind.i64 x0a, Value.slice x0ba x0bn x0bc, Value.slice x0ca x0cn x0cc].length OMode.var]) = some (Ex.exit 0, [Value.int IntKind.i64 z1, Value.pointer (some { block := z2p, off := z2o, spot := some z2l }), z4, Value.int IntKind.u64 z5], H1)) ∧ (getCells H1 z2p z2l z2o 3 = some [Value.int IntKind.i64 x40a, Value.slice x40ba x40bn x40bc, Value.slice x40ca x40cn x40cc]) ∧ (callInf cfg 14 [Value.agg { toList := [Value.int IntKind.i64 x40a, Value.slice x40ba x40bn x40bc, Value.slice x40ca x40cn x40cc] }, Value.int IntKind.i64 z1] (List.length H) H1 = some (Value.tuple { toList := [Value.int IntKind.u64 x42a, Value.int IntKind.i64 x42b] }, H1)) ∧ (getCells H1 z2p z2l z2o 3 = some [Value.int IntKind.i64 x46a, Value.slice x46ba x46bn x46bc, Value.slice x46ca x46cn x46cc]) ∧ (callInf cfg 16 [Value.agg { toList := [Value.int IntKind.i64 x46a, Value.slice x46ba x46bn x46bc, Value.slice x46ca x46cn x46cc] }] (List.length H) H1 = some (Value.agg { toList := [Value.int IntKind.i64 x47a, Value.slice x47ba x47bn x47bc, Value.slice x47ca x47cn x47cc] }, H2)) ∧ (callInf cfg 14 [Value.agg { toList := [Value.int IntKind.i64 x47a, Value.slice x47ba x47bn x47bc, Value.slice x47ca x47cn x47cc] }, Value.int IntKind.i64 z1] (List.length H) H2 = some (Value.tuple { toList := [Value.int IntKind.u64 x49a, Value.int IntKind.i64 x49b] }, H2)) ∧ (callInf cfg 15 [Value.int IntKind.i64 x42b] (List.length H) H2 = some (Value.int IntKind.i64 x53, H2)) ∧ (callInf cfg 15 [Value.int IntKind.i64 x49b] (List.length H) H2 = some (Value.int IntKind.i64 x55, H2)) ∧ (Fit IntKind.i64 (x53 + x55)) ∧ ((x53 + x55 == 0) = false) ∧ ((x53 + x55 == 0) = false) ∧ ((x53 + x55 == 0) = false) ∧ ((x53 + x55 == 0) = false) ∧ (false = false) ∧ (false = false) ∧ (false = false) ∧ (false = false) ∧ (false = false) ∧ (false = false) ∧ e) (by kernel_rfl) ⟨h1, h2, h3, h4, h5, h4, h4, h6, (by decide), h7, (by decide), h8, h9, h10, h11, h12, h13, h14, h15, h16, h17, h17, h17, h17, rfl, rfl, rfl, rfl, rfl, rfl, rfl⟩ rfl
theorem f4_F_3 {x0a : Int} {x0ba : Option Addr} {x0bn : Nat} {x0bc : Nat} {x0ca : Option Addr} {x0cn : Nat} {x0cc : Nat} {x1 : Int} {H : AHeap} {prot : Nat} {x11a : Int} {x11ba : Option Addr} {x11bn : Nat} {x11bc : Nat} {x11ca : Option Addr} {x11cn : Nat} {x11cc : Nat} {x12 : Bool} {x15 : Bool} {z1 : Value} {z2 : Value} {z4 : Bool} {z5 : Value} {H1 : AHeap} (h1 : [Value.int IntKind.i64 x0a, Value.slice x0ba x0bn x0bc, Value.slice x0ca x0cn x0cc].all isCell = true) (h2 : getCells (H ++ [AObj.cells [Value.int IntKind.i64 x0a, Value.slice x0ba x0bn x0bc, Value.slice x0ca x0cn x0cc] 25 [Value.int IntKind.i64 x0a, Value.slice x0ba x0bn x0bc, Value.slice x0ca x0cn x0cc].length OMode.var]) (List.length H) [Value.int IntKind.i64 x0a, Value.slice x0ba x0bn x0bc, Value.slice x0ca x0cn x0cc].length 0 3 = some [Value.int IntKind.i64 x11a, Value.slice x11ba x11bn x11bc, Value.slice x11ca x11cn x11cc]) (h3 : callInf cfg 11 [Value.agg { toList := [Value.int IntKind.i64 x11a, Value.slice x11ba x11bn x11bc, Value.slice x11ca x11cn x11cc] }] (List.length H) (H ++ [AObj.cells [Value.int IntKind.i64 x0a, Value.slice x0ba x0bn x0bc, Value.slice x0ca x0cn x0cc] 25 [Value.int IntKind.i64 x0a, Value.slice x0ba x0bn x0bc, Value.slice x0ca x0cn x0cc].length OMode.var]) = some (Value.bool x12, H ++ [AObj.cells [Value.int IntKind.i64 x0a, Value.slice x0ba x0bn x0bc, Value.slice x0ca x0cn x0cc] 25 [Value.int IntKind.i64 x0a, Value.slice x0ba x0bn x0bc, Value.slice x0ca x0cn x0cc].length OMode.var])) (h4 : (!x12) = false) (h5 : callInf cfg 12 [] (List.length H) (H ++ [AObj.cells [Value.int IntKind.i64 x0a, Value.slice x0ba x0bn x0bc, Value.slice x0ca x0cn x0cc] 25 [Value.int IntKind.i64 x0a, Value.slice x0ba x0bn x0bc, Value.slice x0ca x0cn x0cc].length OMode.var]) = some (Value.bool x15, H ++ [AObj.cells [Value.int IntKind.i64 x0a, Value.slice x0ba x0bn x0bc, Value.slice x0ca x0cn x0cc] 25 [Value.int IntKind.i64 x0a, Value.slice x0ba x0bn x0bc, Value.slice x0ca x0cn x0cc].length OMode.var])) (h6 : (!x15) = false) (h7 : Fit IntKind.i64 (x1.tmod 70 + 70)) (h8 : lpInf (lpOf cfg a4 0 prot H) ([Value.int IntKind.i64 ((x1.tmod 70 + 70).tmod 70), Value.pointer (some { block := List.length H, off := 0, spot := some [Value.int IntKind.i64 x0a, Value.slice x0ba x0bn x0bc, Value.slice x0ca x0cn x0cc].length }), Value.int IntKind.u64 1, Value.int IntKind.i64 0], H ++ [AObj.cells [Value.int IntKind.i64 x0a, Value.slice x0ba x0bn x0bc, Value.slice x0ca x0cn x0cc] 25 [Value.int IntKind.i64 x0a, Value.slice x0ba x0bn x0bc, Value.slice x0ca x0cn x0cc].length OMode.var]) = some (Ex.ret, [z1, z2, Value.bool z4, z5], H1)) : callInf cfg 4 [.agg #[.int .i64 x0a, .slice x0ba x0bn x0bc, .slice x0ca x0cn x0cc], .int .i64 x1] prot H = some (Value.bool z4, H) :=
  fn_of a4 [.e, .v (.agg #[.int .i64 x11a, .slice x11ba x11bn x11bc, .slice x11ca x11cn x11cc]), .v (.bool x12), .e, .b false, .v (.bool x15), .b false, .e, .b false, .b false, .e, .e, .e, .lo (.ret, [z1, z2, .bool z4, z5], H1)] (fun e => ([Value.int IntKind.i64 x0a, Value.slice x0ba x0bn x0bc, Value.slice x0ca x0cn x0cc].all isCell = true) ∧ (getCells (H ++ [AObj.cells [Value.int IntKind.i64 x0a, Value.slice x0ba x0bn x0bc, Value.slice x0ca x0cn x0cc] 25 [Value.int IntKind.i64 x0a, Value.slice x0ba x0bn x0bc, Value.slice x0ca x0cn x0cc].length OMode.var]) (List.length H) [Value.int IntKind.i64 x0a, Value.slice x0ba x0bn x0bc, Value.slice x0ca x0cn x0cc].length 0 3 = some [Value.int IntKind.i64 x11a, Value.slice x11ba x11bn x11bc, Value.slice x11ca x11cn x11cc]) ∧ (callInf cfg 11 [Value.agg { toList := [Value.int IntKind.i64 x11a, Value.slice x11ba x11bn x11bc, Value.slice x11ca x11cn x11cc] }] (List.length H) (H ++ [AObj.cells [Value.int IntKind.i64 x0a, Value.slice x0ba x0bn x0bc, Value.slice x0ca x0cn x0cc] 25 [Value.int IntKind.i64 x0a, Value.slice x0ba x0bn x0bc, Value.slice x0ca x0cn x0cc].length OMode.var]) = some (Value.bool x12, H ++ [AObj.cells [Value.int IntKind.i64 x0a, Value.slice x0ba x0bn x0bc, Value.slice x0ca x0cn x0cc] 25 [Value.int IntKind.i64 x0a, Value.slice x0ba x0bn x0bc, Value.slice x0ca x0cn x0cc].length OMode.var])) ∧ ((!x12) = false) ∧ (callInf cfg 12 [] (List.length H) (H ++ [AObj.cells [Value.int IntKind.i64 x0a, Value.slice x0ba x0bn x0bc, Value.slice x0ca x0cn x0cc] 25 [Value.int IntKind.i64 x0a, Value.slice x0ba x0bn x0bc, Value.slice x0ca x0cn x0cc].length OMode.var]) = some (Value.bool x15, H ++ [AObj.cells [Value.int IntKind.i64 x0a, Value.slice x0ba x0bn x0bc, Value.slice x0ca x0cn x0cc] 25 [Value.int IntKind.i64 x0a, Value.slice x0ba x0bn x0bc, Value.slice x0ca x0cn x0cc].length OMode.var])) ∧ ((!x12) = false) ∧ ((!x12) = false) ∧ ((!x15) = false) ∧ ((70 : Int) ≠ 0) ∧ (Fit IntKind.i64 (x1.tmod 70 + 70)) ∧ ((70 : Int) ≠ 0) ∧ (lpInf (lpOf cfg a4 0 prot H) ([Value.int IntKind.i64 ((x1.tmod 70 + 70).tmod 70), Value.pointer (some { block := List.length H, off := 0, spot := some [Value.int IntKind.i64 x0a, Value.slice x0ba x0bn x0bc, Value.slice x0ca x0cn x0cc].length }), Value.int IntKind.u64 1, Value.int IntKind.i64 0], H ++ [AObj.cells [Value.int IntKind.i64 x0a, Value.slice x0ba x0bn x0bc, Value.slice x0ca x0cn x0cc] 25 [Value.int IntKind.i64 x0a, Value.slice x0ba x0bn x0bc, Value.slice x0ca x0cn x0cc].length OMode.var]) = some (Ex.ret, [z1, z2, Value.bool z4, z5], H1)) ∧ e) (by kernel_rfl) ⟨h1, h2, h3, h4, h5, h4, h4, h6, (by decide), h7, (by decide), h8, rfl⟩ rfl
theorem f4_F_4 {x0a : Int} {x0ba : Option Addr} {x0bn : Nat} {x0bc : Nat} {x0ca : Option Addr} {x0cn : Nat} {x0cc : Nat} {x1 : Int} {H : AHeap} {prot : Nat} {x11a : Int} {x11ba : Option Addr} {x11bn : Nat} {x11bc : Nat} {x11ca : Option Addr} {x11cn : Nat} {x11cc : Nat} {x12 : Bool} {x15 : Bool} {x18 : Bool} (h1 : [Value.int IntKind.i64 x0a, Value.slice x0ba x0bn x0bc, Value.slice x0ca x0cn x0cc].all isCell = true) (h2 : getCells (H ++ [AObj.cells [Value.int IntKind.i64 x0a, Value.slice x0ba x0bn x0bc, Value.slice x0ca x0cn x0cc] 25 [Value.int IntKind.i64 x0a, Value.slice x0ba x0bn x0bc, Value.slice x0ca x0cn x0cc].length OMode.var]) (List.length H) [Value.int IntKind.i64 x0a, Value.slice x0ba x0bn x0bc, Value.slice x0ca x0cn x0cc].length 0 3 = some [Value.int IntKind.i64 x11a, Value.slice x11ba x11bn x11bc, Value.slice x11ca x11cn x11cc]) (h3 : callInf cfg 11 [Value.agg { toList := [Value.int IntKind.i64 x11a, Value.slice x11ba x11bn x11bc, Value.slice x11ca x11cn x11cc] }] (List.length H) (H ++ [AObj.cells [Value.int IntKind.i64 x0a, Value.slice x0ba x0bn x0bc, Value.slice x0ca x0cn x0cc] 25 [Value.int IntKind.i64 x0a, Value.slice x0ba x0bn x0bc, Value.slice x0ca x0cn x0cc].length OMode.var]) = some (Value.bool x12, H ++ [AObj.cells [Value.int IntKind.i64 x0a, Value.slice x0ba x0bn x0bc, Value.slice x0ca x0cn x0cc] 25 [Value.int IntKind.i64 x0a, Value.slice x0ba x0bn x0bc, Value.slice x0ca x0cn x0cc].length OMode.var])) (h4 : (!x12) = false) (h5 : callInf cfg 12 [] (List.length H) (H ++ [AObj.cells [Value.int IntKind.i64 x0a, Value.slice x0ba x0bn x0bc, Value.slice x0ca x0cn x0cc] 25 [Value.int IntKind.i64 x0a, Value.slice x0ba x0bn x0bc, Value.slice x0ca x0cn x0cc].length OMode.var]) = some (Value.bool x15, H ++ [AObj.cells [Value.int IntKind.i64 x0a, Value.slice x0ba x0bn x0bc, Value.slice x0ca x0cn x0cc] 25 [Value.int IntKind.i64 x0a, Value.slice x0ba x0bn x0bc, Value.slice x0ca x0cn x0cc].length OMode.var])) (h6 : (!x15) = true) (h7 : callInf cfg 12 [] (List.length H) (H ++ [AObj.cells [Value.int IntKind.i64 x0a, Value.slice x0ba x0bn x0bc, Value.slice x0ca x0cn x0cc] 25 [Value.int IntKind.i64 x0a, Value.slice x0ba x0bn x0bc, Value.slice x0ca x0cn x0cc].length OMode.var]) = some (Value.bool x18, H ++ [AObj.cells [Value.int IntKind.i64 x0a, Value.slice x0ba x0bn x0bc, Value.slice x0ca x0cn x0cc] 25 [Value.int IntKind.i64 x0a, Value.slice x0ba x0bn x0bc, Value.slice x0ca x0cn x0cc].length OMode.var])) : callInf cfg 4 [.agg #[.int .i64 x0a, .slice x0ba x0bn x0bc, .slice x0ca x0cn x0cc], .int .i64 x1] prot H = some (Value.bool x18, H) :=
  fn_of a4 [.e, .v (.agg #[.int .i64 x11a, .slice x11ba x11bn x11bc, .slice x11ca x11cn x11cc]), .v (.bool x12), .e, .b false, .v (.bool x15), .b false, .e, .b false, .b true, .v (.bool x18)] (fun e => ([Value.int IntKind.i64 x0a, Value.slice x0ba x0bn x0bc, Value.slice x0ca x0cn x0cc].all isCell = true) ∧ (getCells (H ++ [AObj.cells [Value.int IntKind.i64 x0a, Value.slice x0ba x0bn x0bc, Value.slice x0ca x0cn x0cc] 25 [Value.int IntKind.i64 x0a, Value.slice x0ba x0bn x0bc, Value.slice x0ca x0cn x0cc].length OMode.var]) (List.length H) [Value.int IntKind.i64 x0a, Value.slice x0ba x0bn x0bc, Value.slice x0ca x0cn x0cc].length 0 3 = some [Value.int IntKind.i64 x11a, Value.slice x11ba x11bn x11bc, Value.slice x11ca x11cn x11cc]) ∧ (callInf cfg 11 [Value.agg { toList := [Value.int IntKind.i64 x11a, Value.slice x11ba x11bn x11bc, Value.slice x11ca x11cn x11cc] }] (List.length H) (H ++ [AObj.cells [Value.int IntKind.i64 x0a, Value.slice x0ba x0bn x0bc, Value.slice x0ca x0cn x0cc] 25 [Value.int IntKind.i64 x0a, Value.slice x0ba x0bn x0bc, Value.slice x0ca x0cn x0cc].length OMode.var]) = some (Value.bool x12, H ++ [AObj.cells [Value.int IntKind.i64 x0a, Value.slice x0ba x0bn x0bc, Value.slice x0ca x0cn x0cc] 25 [Value.int IntKind.i64 x0a, Value.slice x0ba x0bn x0bc, Value.slice x0ca x0cn x0cc].length OMode.var])) ∧ ((!x12) = false) ∧ (callInf cfg 12 [] (List.length H) (H ++ [AObj.cells [Value.int IntKind.i64 x0a, Value.slice x0ba x0bn x0bc, Value.slice x0ca x0cn x0cc] 25 [Value.int IntKind.i64 x0a, Value.slice x0ba x0bn x0bc, Value.slice x0ca x0cn x0cc].length OMode.var]) = some (Value.bool x15, H ++ [AObj.cells [Value.int IntKind.i64 x0a, Value.slice x0ba x0bn x0bc, Value.slice x0ca x0cn x0cc] 25 [Value.int IntKind.i64 x0a, Value.slice x0ba x0bn x0bc, Value.slice x0ca x0cn x0cc].length OMode.var])) ∧ ((!x12) = false) ∧ ((!x12) = false) ∧ ((!x15) = true) ∧ (callInf cfg 12 [] (List.length H) (H ++ [AObj.cells [Value.int IntKind.i64 x0a, Value.slice x0ba x0bn x0bc, Value.slice x0ca x0cn x0cc] 25 [Value.int IntKind.i64 x0a, Value.slice x0ba x0bn x0bc, Value.slice x0ca x0cn x0cc].length OMode.var]) = some (Value.bool x18, H ++ [AObj.cells [Value.int IntKind.i64 x0a, Value.slice x0ba x0bn x0bc, Value.slice x0ca x0cn x0cc] 25 [Value.int IntKind.i64 x0a, Value.slice x0ba x0bn x0bc, Value.slice x0ca x0cn x0cc].length OMode.var])) ∧ e) (by kernel_rfl) ⟨h1, h2, h3, h4, h5, h4, h4, h6, h7, rfl⟩ rfl
theorem f4_F_5 {x0a : Int} {x0ba : Option Addr} {x0bn : Nat} {x0bc : Nat} {x0ca : Option Addr} {x0cn : Nat} {x0cc : Nat} {x1 : Int} {H : AHeap} {prot : Nat} {x11a : Int} {x11ba : Option Addr} {x11bn : Nat} {x11bc : Nat} {x11ca : Option Addr} {x11cn : Nat} {x11cc : Nat} {x12 : Bool} {x18 : Bool} (h1 : [Value.int IntKind.i64 x0a, Value.slice x0ba x0bn x0bc, Value.slice x0ca x0cn x0cc].all isCell = true) (h2 : getCells (H ++ [AObj.cells [Value.int IntKind.i64 x0a, Value.slice x0ba x0bn x0bc, Value.slice x0ca x0cn x0cc] 25 [Value.int IntKind.i64 x0a, Value.slice x0ba x0bn x0bc, Value.slice x0ca x0cn x0cc].length OMode.var]) (List.length H) [Value.int IntKind.i64 x0a, Value.slice x0ba x0bn x0bc, Value.slice x0ca x0cn x0cc].length 0 3 = some [Value.int IntKind.i64 x11a, Value.slice x11ba x11bn x11bc, Value.slice x11ca x11cn x11cc]) (h3 : callInf cfg 11 [Value.agg { toList := [Value.int IntKind.i64 x11a, Value.slice x11ba x11bn x11bc, Value.slice x11ca x11cn x11cc] }] (List.length H) (H ++ [AObj.cells [Value.int IntKind.i64 x0a, Value.slice x0ba x0bn x0bc, Value.slice x0ca x0cn x0cc] 25 [Value.int IntKind.i64 x0a, Value.slice x0ba x0bn x0bc, Value.slice x0ca x0cn x0cc].length OMode.var]) = some (Value.bool x12, H ++ [AObj.cells [Value.int IntKind.i64 x0a, Value.slice x0ba x0bn x0bc, Value.slice x0ca x0cn x0cc] 25 [Value.int IntKind.i64 x0a, Value.slice x0ba x0bn x0bc, Value.slice x0ca x0cn x0cc].length OMode.var])) (h4 : (!x12) = true) (h5 : callInf cfg 12 [] (List.length H) (H ++ [AObj.cells [Value.int IntKind.i64 x0a, Value.slice x0ba x0bn x0bc, Value.slice x0ca x0cn x0cc] 25 [Value.int IntKind.i64 x0a, Value.slice x0ba x0bn x0bc, Value.slice x0ca x0cn x0cc].length OMode.var]) = some (Value.bool x18, H ++ [AObj.cells [Value.int IntKind.i64 x0a, Value.slice x0ba x0bn x0bc, Value.slice x0ca x0cn x0cc] 25 [Value.int IntKind.i64 x0a, Value.slice x0ba x0bn x0bc, Value.slice x0ca x0cn x0cc].length OMode.var])) : callInf cfg 4 [.agg #[.int .i64 x0a, .slice x0ba x0bn x0bc, .slice x0ca x0cn x0cc], .int .i64 x1] prot H = some (Value.bool x18, H) :=
  fn_of a4 [.e, .v (.agg #[.int .i64 x11a, .slice x11ba x11bn x11bc, .slice x11ca x11cn x11cc]), .v (.bool x12), .e, .b true, .b true, .b true, .b true, .v (.bool x18)] (fun e => ([Value.int IntKind.i64 x0a, Value.slice x0ba x0bn x0bc, Value.slice x0ca x0cn x0cc].all isCell = true) ∧ (getCells (H ++ [AObj.cells [Value.int IntKind.i64 x0a, Value.slice x0ba x0bn x0bc, Value.slice x0ca x0cn x0cc] 25 [Value.int IntKind.i64 x0a, Value.slice x0ba x0bn x0bc, Value.slice x0ca x0cn x0cc].length OMode.var]) (List.length H) [Value.int IntKind.i64 x0a, Value.slice x0ba x0bn x0bc, Value.slice x0ca x0cn x0cc].length 0 3 = some [Value.int IntKind.i64 x11a, Value.slice x11ba x11bn x11bc, Value.slice x11ca x11cn x11cc]) ∧ (callInf cfg 11 [Value.agg { toList := [Value.int IntKind.i64 x11a, Value.slice x11ba x11bn x11bc, Value.slice x11ca x11cn x11cc] }] (List.length H) (H ++ [AObj.cells [Value.int IntKind.i64 x0a, Value.slice x0ba x0bn x0bc, Value.slice x0ca x0cn x0cc] 25 [Value.int IntKind.i64 x0a, Value.slice x0ba x0bn x0bc, Value.slice x0ca x0cn x0cc].length OMode.var]) = some (Value.bool x12, H ++ [AObj.cells [Value.int IntKind.i64 x0a, Value.slice x0ba x0bn x0bc, Value.slice x0ca x0cn x0cc] 25 [Value.int IntKind.i64 x0a, Value.slice x0ba x0bn x0bc, Value.slice x0ca x0cn x0cc].length OMode.var])) ∧ ((!x12) = true) ∧ ((!x12) = true) ∧ ((!x12) = true) ∧ (true = true) ∧ (callInf cfg 12 [] (List.length H) (H ++ [AObj.cells [Value.int IntKind.i64 x0a, Value.slice x0ba x0bn x0bc, Value.slice x0ca x0cn x0cc] 25 [Value.int IntKind.i64 x0a, Value.slice x0ba x0bn x0bc, Value.slice x0ca x0cn x0cc].length OMode.var]) = some (Value.bool x18, H ++ [AObj.cells [Value.int IntKind.i64 x0a, Value.slice x0ba x0bn x0bc, Value.slice x0ca x0cn x0cc] 25 [Value.int IntKind.i64 x0a, Value.slice x0ba x0bn x0bc, Value.slice x0ca x0cn x0cc].length OMode.var])) ∧ e) (by kernel_rfl) ⟨h1, h2, h3, h4, h4, h4, rfl, h5, rfl⟩ rfl
theorem f4_L0_0 {x1 : Int} {x2p : Nat} {x2o : Nat} {x2l : Nat} {x5 : Int} {x6 : Int} {H0 : AHeap} {prot : Nat} {H : AHeap} {x30 : Int} (h1 : x6 < x1) (h2 : getCells H x2p x2l (x2o + 0) 1 = some [Value.int IntKind.i64 x30]) (h3 : IntKind.u64.wrap x30 ≠ 0) (h4 : x5 > IntKind.u64.wrap (Int.tdiv 18446744073709551615 (IntKind.u64.wrap x30))) : lpOf cfg a4 0 prot H0 ([.int .i64 x1, .pointer (some ⟨x2p, x2o, some x2l⟩), .int .u64 x5, .int .i64 x6], H) = some (Sum.inr (Ex.ret, [Value.int IntKind.i64 x1, Value.pointer (some { block := x2p, off := x2o, spot := some x2l }), Value.bool true, Value.int IntKind.u64 x5], H)) :=
  lp_of [.e, .b true, .v (.int .i64 x30), .e, .e, .e, .b true] (fun e => (decide (x6 < x1) = true) ∧ (getCells H x2p x2l (x2o + 0) 1 = some [Value.int IntKind.i64 x30]) ∧ (IntKind.u64.wrap x30 ≠ 0) ∧ (decide (x5 > IntKind.u64.wrap (Int.tdiv 18446744073709551615 (IntKind.u64.wrap x30))) = true) ∧ e) (by kernel_rfl) ⟨decide_eq_true h1, h2, h3, decide_eq_true h4, rfl⟩
theorem f4_L0_1 {x1 : Int} {x2p : Nat} {x2o : Nat} {x2l : Nat} {x5 : Int} {x6 : Int} {H0 : AHeap} {prot : Nat} {H : AHeap} {x30 : Int} {x36 : Int} (h1 : x6 < x1) (h2 : getCells H x2p x2l (x2o + 0) 1 = some [Value.int IntKind.i64 x30]) (h3 : IntKind.u64.wrap x30 ≠ 0) (h4 : ¬(x5 > IntKind.u64.wrap (Int.tdiv 18446744073709551615 (IntKind.u64.wrap x30)))) (h5 : getCells H x2p x2l (x2o + 0) 1 = some [Value.int IntKind.i64 x36]) (h6 : Fit IntKind.i64 (x6 + 1)) : lpOf cfg a4 0 prot H0 ([.int .i64 x1, .pointer (some ⟨x2p, x2o, some x2l⟩), .int .u64 x5, .int .i64 x6], H) = some (Sum.inl ([Value.int IntKind.i64 x1, Value.pointer (some { block := x2p, off := x2o, spot := some x2l }), Value.int IntKind.u64 (IntKind.u64.wrap (x5 * IntKind.u64.wrap x36)), Value.int IntKind.i64 (x6 + 1)], H)) :=
  lp_of [.e, .b true, .v (.int .i64 x30), .e, .e, .e, .b false, .v (.int .i64 x36), .e, .e, .e] (fun e => (decide (x6 < x1) = true) ∧ (getCells H x2p x2l (x2o + 0) 1 = some [Value.int IntKind.i64 x30]) ∧ (IntKind.u64.wrap x30 ≠ 0) ∧ (decide (x5 > IntKind.u64.wrap (Int.tdiv 18446744073709551615 (IntKind.u64.wrap x30))) = false) ∧ (getCells H x2p x2l (x2o + 0) 1 = some [Value.int IntKind.i64 x36]) ∧ (Fit IntKind.i64 (x6 + 1)) ∧ e) (by kernel_rfl) ⟨decide_eq_true h1, h2, h3, decide_eq_false h4, h5, h6, rfl⟩
theorem f4_L0_2 {x1 : Int} {x2p : Nat} {x2o : Nat} {x2l : Nat} {x5 : Int} {x6 : Int} {H0 : AHeap} {prot : Nat} {H : AHeap} (h1 : ¬(x6 < x1)) : lpOf cfg a4 0 prot H0 ([.int .i64 x1, .pointer (some ⟨x2p, x2o, some x2l⟩), .int .u64 x5, .int .i64 x6], H) = some (Sum.inr (Ex.exit 0, [Value.int IntKind.i64 x1, Value.pointer (some { block := x2p, off := x2o, spot := some x2l }), Value.tuple { toList := [] }, Value.int IntKind.u64 x5], H)) :=
  lp_of [.e, .b false] (fun e => (decide (x6 < x1) = false) ∧ e) (by kernel_rfl) ⟨decide_eq_false h1, rfl⟩
end Go.Proofs.Ythjkodbinkiifaa.Am23
set_option linter.unusedVariables false
open Go Go.Proofs.Ythjkodbinkiifaa.Am
namespace Go.Proofs.Ythjkodbinkiifaa.Am23
theorem f15_F_0 {x0 : Int} {H : AHeap} {prot : Nat}  : callInf cfg 15 [.int .i64 x0] prot H = some (Value.int IntKind.i64 x0, H) :=
  fn_of a15 [] (fun e => e) (by kernel_rfl) rfl rfl
end Go.Proofs.Ythjkodbinkiifaa.Am23
namespace Go.Proofs.Ythjkodbinkiifaa.Am23
open Go Go.Proofs.Ythjkodbinkiifaa.Am

theorem cKnows (prot : Nat) (H : AHeap) : callInf cfg 12 [] prot H = some (.bool true, H) := by
  refine callInf_body ?_
  unfold callWith
  have h : cfg.code 12 = some a12 := rfl
  rw [h]
  rfl

/-! ### The words of a language and those of what is left -/
theorem getD_set {D : List Nat} {i s v : Nat} (hi : i < D.length) : (D.set i v).getD s 0 = if s = i then v else D.getD s 0 := by
  simp only [List.getD_eq_getElem?_getD, List.getElem?_set]
  by_cases h : s = i
  · subst h; simp [hi]
  · rw [if_neg h, if_neg (fun e => h e.symm)]
theorem pass_sum {k : Nat} {xs : List Int} {bs : List Bool} (hG : Good k xs bs) {C C' : List Nat} {q : Nat} (hC : ∀ t, t < bs.length → C.getD t 0 + C'.getD t 0 = q) : ∀ (d i : Nat) (D D' : List Nat), i + d = xs.length → D.length = bs.length → D'.length = bs.length →
    (∀ s, s < bs.length → D.getD s 0 + D'.getD s 0 = q * min k (i - s * k)) → ∀ s, s < bs.length → (pass k xs C d i D).getD s 0 + (pass k xs C' d i D').getD s 0 = q * min k (xs.length - s * k)
  | 0, i, D, D', hi, hD, hD', h, s, hs => by
    simp only [pass]
    rw [h s hs]
    have : i = xs.length := by omega
    rw [this]
  | d + 1, i, D, D', hi, hD, hD', h, s, hs => by
    simp only [pass]
    have hk := hG.k1
    have hxl := hG.nx
    have hil : i < xs.length := by omega
    obtain ⟨t, ht, htl⟩ := hG.r i xs[i] (List.getElem?_eq_getElem hil)
    have hget : xs.getD i 0 = t := by rw [List.getD_eq_getElem?_getD, List.getElem?_eq_getElem hil, ht]; rfl
    have hsi : i / k < bs.length := Nat.div_lt_of_lt_mul (by rw [Nat.mul_comm]; omega)
    rw [hget, Int.toNat_natCast]
    refine pass_sum hG hC d (i + 1) _ _ (by omega) (by simp; omega) (by simp; omega) (fun s hs => ?_) s hs
    rw [getD_set (by omega), getD_set (by omega)]
    have hdm := Nat.div_add_mod i k
    have hml := Nat.mod_lt i (show 0 < k by omega)
    by_cases he : s = i / k
    · rw [if_pos he, if_pos he]
      have h1 := h (i / k) hsi
      have h2 := hC t htl
      have e1 : min k (i - i / k * k) = i % k := by rw [Nat.mul_comm] at hdm ⊢; rw [show k * (i / k) = i / k * k from Nat.mul_comm _ _]; omega
      have e2 : min k (i + 1 - s * k) = i % k + 1 := by rw [he]; rw [Nat.mul_comm] at hdm; omega
      rw [e1] at h1
      rw [e2, Nat.mul_add, Nat.mul_one]
      omega
    · rw [if_neg he, if_neg he, h s hs]
      congr 1
      rcases Nat.lt_or_ge s (i / k) with hlt | hge
      · have := Nat.mul_le_mul (show s + 1 ≤ i / k by omega) (Nat.le_refl k)
        rw [Nat.add_mul, Nat.one_mul] at this
        rw [Nat.mul_comm] at hdm
        omega
      · have := Nat.mul_le_mul (show i / k + 1 ≤ s by omega) (Nat.le_refl k)
        rw [Nat.add_mul, Nat.one_mul] at this
        rw [Nat.mul_comm] at hdm
        omega
theorem Good.not {k : Nat} {xs : List Int} {bs : List Bool} (hG : Good k xs bs) : Good k xs (bs.map (!·)) := by
  refine ⟨hG.k1, hG.k8, by simp; exact hG.n1, by simp; exact hG.n5, by simp; exact hG.nx, fun i x hx => ?_⟩
  obtain ⟨t, h1, h2⟩ := hG.r i x hx
  exact ⟨t, h1, by simpa using h2⟩
theorem rowC_sum {k : Nat} {xs : List Int} {bs : List Bool} (hG : Good k xs bs) : ∀ (m s : Nat), s < bs.length → (rowC k xs bs m).getD s 0 + (rowC k xs (bs.map (!·)) m).getD s 0 = k ^ m
  | 0, s, hs => by
    simp only [rowC, List.getD_eq_getElem?_getD, List.getElem?_map, List.getElem?_eq_getElem hs, Option.map_some, Option.getD_some, Nat.pow_zero]
    cases bs[s] <;> simp [b2n]
  | m + 1, s, hs => by
    simp only [rowC, List.length_map]
    have := pass_sum hG (C := rowC k xs bs m) (C' := rowC k xs (bs.map (!·)) m) (q := k ^ m) (fun t ht => rowC_sum hG m t ht) xs.length 0 (List.replicate bs.length 0) (List.replicate bs.length 0) (by omega) (by simp) (by simp)
      (fun s hs => by simp [List.getD_eq_getElem?_getD, hs]) s hs
    rw [this, Nat.pow_succ]
    congr 1
    have hxl := hG.nx
    have := Nat.mul_le_mul (show s + 1 ≤ bs.length by omega) (Nat.le_refl k)
    rw [Nat.add_mul, Nat.one_mul] at this
    omega

theorem u64_small {m : Nat} (h : m < 18446744073709551616) : IntKind.u64.wrap (m : Int) = (m : Int) := by
  simp only [IntKind.wrap]
  show (if (false && decide ((m : Int) % (18446744073709551616 : Int) ≥ (9223372036854775808 : Int))) = true then (m : Int) % (18446744073709551616 : Int) - 18446744073709551616 else (m : Int) % (18446744073709551616 : Int)) = _
  rw [if_neg (by simp)]
  omega

theorem loop4 {k : Nat} (hk1 : 1 ≤ k) (hk8 : k ≤ 8) {n : Nat} (hn : n ≤ 70) {vN vA : Value} {H0 H : AHeap} {prot : Nat} (hb : H[H0.length]? = some (bx k vN vA)) : ∀ (d i : Nat), i + d = n → k ^ i < 18446744073709551616 →
    (∃ z, lpInf (lpOf cfg a4 0 prot H0) ([.int .i64 n, .pointer (some ⟨H0.length, 0, some 3⟩), .int .u64 (k ^ i : Nat), .int .i64 i], H) = some (.ret, [.int .i64 n, .pointer (some ⟨H0.length, 0, some 3⟩), .bool true, z], H)) ∨
    (k ^ n < 18446744073709551616 ∧ lpInf (lpOf cfg a4 0 prot H0) ([.int .i64 n, .pointer (some ⟨H0.length, 0, some 3⟩), .int .u64 (k ^ i : Nat), .int .i64 i], H) = some (.exit 0, [.int .i64 n, .pointer (some ⟨H0.length, 0, some 3⟩), .tuple #[], .int .u64 (k ^ n : Nat)], H))
  | 0, i, hi, hp => by
    have : i = n := by omega
    subst this
    exact .inr ⟨hp, lp_last (f4_L0_2 (by omega))⟩
  | d + 1, i, hi, hp => by
    obtain ⟨g0, _⟩ := fld3 hb
    have wk : IntKind.u64.wrap (k : Int) = k := u64_small (by omega)
    have etd : Int.tdiv 18446744073709551615 (k : Int) = ((18446744073709551615 / k : Nat) : Int) := by rw [show (18446744073709551615 : Int) = ((18446744073709551615 : Nat) : Int) from rfl, Int.ofNat_tdiv]
    have hdl : 18446744073709551615 / k ≤ 18446744073709551615 := Nat.div_le_self _ _
    have wd : IntKind.u64.wrap (Int.tdiv 18446744073709551615 (IntKind.u64.wrap (k : Int))) = ((18446744073709551615 / k : Nat) : Int) := by
      rw [wk, etd]; exact u64_small (by omega)
    by_cases hc : k ^ i > 18446744073709551615 / k
    · exact .inl ⟨_, lp_last (f4_L0_0 (by omega) g0 (by rw [wk]; omega) (by rw [wd]; exact Int.ofNat_lt.2 hc))⟩
    · have hpow : k ^ (i + 1) < 18446744073709551616 := by
        rw [Nat.pow_succ]
        have h1 := Nat.mul_le_mul (show k ^ i ≤ 18446744073709551615 / k by omega) (Nat.le_refl k)
        have h2 := Nat.div_mul_le_self 18446744073709551615 k
        omega
      have hw : IntKind.u64.wrap (((k ^ i : Nat) : Int) * IntKind.u64.wrap (k : Int)) = ((k ^ (i + 1) : Nat) : Int) := by
        rw [wk, show ((k ^ i : Nat) : Int) * (k : Int) = ((k ^ (i + 1) : Nat) : Int) by rw [Nat.pow_succ]; push_cast; rfl]
        exact u64_small hpow
      have step := f4_L0_1 (x1 := (n : Int)) (x5 := ((k ^ i : Nat) : Int)) (x6 := (i : Int)) (H0 := H0) (prot := prot) (by omega) g0 (by rw [wk]; omega) (by rw [wd]; exact fun h => hc (Int.ofNat_lt.1 h)) g0 (fit64 (by omega) (by omega))
      rw [hw] at step
      rcases loop4 hk1 hk8 hn hb (prot := prot) d (i + 1) (by omega) hpow with ⟨z, h⟩ | ⟨h1, h2⟩
      · exact .inl ⟨z, lp_next step h⟩
      · exact .inr ⟨h1, lp_next step h2⟩

theorem law4 {k : Int} {xs : List Int} {bs : List Bool} {vN vA : Value} (x1 : Int) (prot : Nat) (H : AHeap) (hA : IsA H xs bs vN vA) :
    callInf cfg 4 [av k vN vA, .int .i64 x1] prot H = some (.bool true, H) := by
  have hck := c11 (k := k) H.length (H ++ [bx k vN vA]) (hA.stay (Stay.app none H _))
  have hA2 := hA.stay (Stay.app none H [bx k vN vA])
  obtain ⟨aN, cN, rfl⟩ := hA.n.len
  obtain ⟨aA, cA, rfl⟩ := hA.a.len
  have hg : (H ++ [bx k (.slice aN xs.length cN) (.slice aA bs.length cA)])[H.length]? = some (bx k (.slice aN xs.length cN) (.slice aA bs.length cA)) := append_get.1
  obtain ⟨g0, g1, g2, g3⟩ := fld3 hg
  by_cases h0 : chkG k xs bs = 0
  · rw [decide_eq_true h0] at hck
    obtain ⟨k, rfl, hG⟩ := good_of h0
    have hn1 := hG.n1
    have hn5 := hG.n5
    obtain ⟨n, hn, hnl⟩ : ∃ n : Nat, (x1.tmod 70 + 70).tmod 70 = n ∧ n ≤ 70 := by
      have h1 := Int.tmod_lt_of_pos x1 (show (0 : Int) < 70 by omega)
      have h2 : -70 < x1.tmod 70 := Int.lt_tmod_of_pos x1 (by omega)
      have h3 : 0 ≤ (x1.tmod 70 + 70).tmod 70 := Int.tmod_nonneg _ (by omega)
      have h4 := Int.tmod_lt_of_pos (x1.tmod 70 + 70) (show (0 : Int) < 70 by omega)
      exact ⟨((x1.tmod 70 + 70).tmod 70).toNat, by omega, by omega⟩
    have hfit : Fit .i64 (x1.tmod 70 + 70) := by
      have h1 := Int.tmod_lt_of_pos x1 (show (0 : Int) < 70 by omega)
      have h2 : -70 < x1.tmod 70 := Int.lt_tmod_of_pos x1 (by omega)
      exact fit64 (by omega) (by omega)
    have hl := loop4 (k := k) hG.k1 hG.k8 hnl (prot := prot) hg n 0 (by omega) (by simp)
    rw [← hn] at hl
    rcases hl with ⟨z, hl⟩ | ⟨hpow, hl⟩
    · exact f4_F_3 all3 g3 hck rfl (cKnows _ _) rfl hfit hl
    · have hx := c14 (k := (k : Int)) (n := (x1.tmod 70 + 70).tmod 70) H.length (H ++ [bx k (.slice aN xs.length cN) (.slice aA bs.length cA)]) hA2
      obtain ⟨vA', H2, q1, q2, q3⟩ := c16 (k := (k : Int)) H.length (H ++ [bx k (.slice aN xs.length cN) (.slice aA bs.length cA)]) hA2 hn1 (by omega)
      have hy := c14 (k := (k : Int)) (n := (x1.tmod 70 + 70).tmod 70) H.length H2 q2
      obtain ⟨aA', cA', hvA⟩ := q2.a.len
      subst hvA
      have hsum := rowC_sum hG n 0 (by omega)
      have cv : ∀ bs' : List Bool, chkG k xs bs' = 0 → (rowC k xs bs' n).getD 0 0 < 18446744073709551616 → countV k xs bs' ((x1.tmod 70 + 70).tmod 70) = ((rowC k xs bs' n).getD 0 0, 0) := fun bs' h1 h2 => by
        unfold countV
        rw [if_pos h1, hn, if_neg (by omega), if_neg (by omega), Int.toNat_natCast, Int.toNat_natCast, if_neg (by omega)]
      have h0' : chkG k xs (bs.map (!·)) = 0 := by
        have hh : ∀ bs' : List Bool, bs'.length = bs.length → chkG k xs bs' = 0 := fun bs' hl' => by
          unfold chkG good at h0 ⊢
          rw [hl']
          exact h0
        exact hh _ (by simp)
      rw [cv bs h0 (by omega)] at hx
      rw [cv _ h0' (by omega)] at hy
      have := f4_F_0 (x0a := (k : Int)) (prot := prot) all3 g3 hck rfl (cKnows _ _) rfl hfit hl g3 hx g3 q1 hy f15_F_0 f15_F_0 (fit64 (by omega) (by omega)) rfl (by omega)
      rw [this]
      have hw : IntKind.u64.wrap (((k ^ n : Nat) : Int) - (((rowC k xs bs n).getD 0 0 : Nat) : Int)) = (((rowC k xs (bs.map (!·)) n).getD 0 0 : Nat) : Int) := by
        rw [show ((k ^ n : Nat) : Int) - (((rowC k xs bs n).getD 0 0 : Nat) : Int) = (((rowC k xs (bs.map (!·)) n).getD 0 0 : Nat) : Int) by omega]
        exact u64_small (by omega)
      simp only
      rw [hw]
      simp
  · rw [decide_eq_false h0] at hck
    exact f4_F_5 all3 g3 hck rfl (cKnows _ _)
end Go.Proofs.Ythjkodbinkiifaa.Am23
set_option linter.unusedVariables false
open Go Go.Proofs.Ythjkodbinkiifaa.Am
namespace Go.Proofs.Ythjkodbinkiifaa.Am23
theorem f3_F_0 {x0a : Int} {x0ba : Option Addr} {x0bn : Nat} {x0bc : Nat} {x0ca : Option Addr} {x0cn : Nat} {x0cc : Nat} {H : AHeap} {prot : Nat} {x11a : Int} {x11ba : Option Addr} {x11bn : Nat} {x11bc : Nat} {x11ca : Option Addr} {x11cn : Nat} {x11cc : Nat} {x12 : Bool} {x15 : Bool} {x20a : Int} {x20ba : Option Addr} {x20bn : Nat} {x20bc : Nat} {x20ca : Option Addr} {x20cn : Nat} {x20cc : Nat} {x21a : Bool} {x21ba : ByteArray} {x21bb : ByteArray} {x21bc : ByteArray} {x21c : Int} {H1 : AHeap} {x26a : Option Addr} {x26n : Nat} {x26c : Nat} {z3 : Bool} {z5 : Int} {z7 : Bool} {H2 : AHeap} {x53 : Int} (h1 : [Value.int IntKind.i64 x0a, Value.slice x0ba x0bn x0bc, Value.slice x0ca x0cn x0cc].all isCell = true) (h2 : getCells (H ++ [AObj.cells [Value.int IntKind.i64 x0a, Value.slice x0ba x0bn x0bc, Value.slice x0ca x0cn x0cc] 25 [Value.int IntKind.i64 x0a, Value.slice x0ba x0bn x0bc, Value.slice x0ca x0cn x0cc].length OMode.var]) (List.length H) [Value.int IntKind.i64 x0a, Value.slice x0ba x0bn x0bc, Value.slice x0ca x0cn x0cc].length 0 3 = some [Value.int IntKind.i64 x11a, Value.slice x11ba x11bn x11bc, Value.slice x11ca x11cn x11cc]) (h3 : callInf cfg 11 [Value.agg { toList := [Value.int IntKind.i64 x11a, Value.slice x11ba x11bn x11bc, Value.slice x11ca x11cn x11cc] }] (List.length H) (H ++ [AObj.cells [Value.int IntKind.i64 x0a, Value.slice x0ba x0bn x0bc, Value.slice x0ca x0cn x0cc] 25 [Value.int IntKind.i64 x0a, Value.slice x0ba x0bn x0bc, Value.slice x0ca x0cn x0cc].length OMode.var]) = some (Value.bool x12, H ++ [AObj.cells [Value.int IntKind.i64 x0a, Value.slice x0ba x0bn x0bc, Value.slice x0ca x0cn x0cc] 25 [Value.int IntKind.i64 x0a, Value.slice x0ba x0bn x0bc, Value.slice x0ca x0cn x0cc].length OMode.var])) (h4 : (!x12) = false) (h5 : callInf cfg 12 [] (List.length H) (H ++ [AObj.cells [Value.int IntKind.i64 x0a, Value.slice x0ba x0bn x0bc, Value.slice x0ca x0cn x0cc] 25 [Value.int IntKind.i64 x0a, Value.slice x0ba x0bn x0bc, Value.slice x0ca x0cn x0cc].length OMode.var]) = some (Value.bool x15, H ++ [AObj.cells [Value.int IntKind.i64 x0a, Value.slice x0ba x0bn x0bc, Value.slice x0ca x0cn x0cc] 25 [Value.int IntKind.i64 x0a, Value.slice x0ba x0bn x0bc, Value.slice x0ca x0cn x0cc].length OMode.var])) (h6 : (!x15) = false) (h7 : getCells (H ++ [AObj.cells [Value.int IntKind.i64 x0a, Value.slice x0ba x0bn x0bc, Value.slice x0ca x0cn x0cc] 25 [Value.int IntKind.i64 x0a, Value.slice x0ba x0bn x0bc, Value.slice x0ca x0cn x0cc].length OMode.var]) (List.length H) [Value.int IntKind.i64 x0a, Value.slice x0ba x0bn x0bc, Value.slice x0ca x0cn x0cc].length 0 3 = some [Value.int IntKind.i64 x20a, Value.slice x20ba x20bn x20bc, Value.slice x20ca x20cn x20cc]) (h8 : callInf cfg 13 [Value.agg { toList := [Value.int IntKind.i64 x20a, Value.slice x20ba x20bn x20bc, Value.slice x20ca x20cn x20cc] }] (List.length H) (H ++ [AObj.cells [Value.int IntKind.i64 x0a, Value.slice x0ba x0bn x0bc, Value.slice x0ca x0cn x0cc] 25 [Value.int IntKind.i64 x0a, Value.slice x0ba x0bn x0bc, Value.slice x0ca x0cn x0cc].length OMode.var]) = some (Value.tuple { toList := [Value.bool x21a, Value.agg { toList := [Value.string x21ba, Value.string x21bb, Value.string x21bc] }, Value.int IntKind.i64 x21c] }, H ++ [AObj.cells [Value.int IntKind.i64 x0a, Value.slice x0ba x0bn x0bc, Value.slice x0ca x0cn x0cc] 25 [Value.int IntKind.i64 x0a, Value.slice x0ba x0bn x0bc, Value.slice x0ca x0cn x0cc].length OMode.var])) (h9 : [Value.string x21ba, Value.string x21bb, Value.string x21bc].length = 3) (h10 : setCells (H ++ [AObj.cells [Value.int IntKind.i64 x0a, Value.slice x0ba x0bn x0bc, Value.slice x0ca x0cn x0cc] 25 [Value.int IntKind.i64 x0a, Value.slice x0ba x0bn x0bc, Value.slice x0ca x0cn x0cc].length OMode.var] ++ [AObj.cells [Value.string { data := { toList := [] } }, Value.string { data := { toList := [] } }, Value.string { data := { toList := [] } }] 29 [Value.string { data := { toList := [] } }, Value.string { data := { toList := [] } }, Value.string { data := { toList := [] } }].length OMode.var]) (List.length H) (List.length (H ++ [AObj.cells [Value.int IntKind.i64 x0a, Value.slice x0ba x0bn x0bc, Value.slice x0ca x0cn x0cc] 25 [Value.int IntKind.i64 x0a, Value.slice x0ba x0bn x0bc, Value.slice x0ca x0cn x0cc].length OMode.var])) [Value.string { data := { toList := [] } }, Value.string { data := { toList := [] } }, Value.string { data := { toList := [] } }].length 0 [Value.string x21ba, Value.string x21bb, Value.string x21bc] = some H1) (h11 : getCells H1 (List.length H) [Value.int IntKind.i64 x0a, Value.slice x0ba x0bn x0bc, Value.slice x0ca x0cn x0cc].length (0 + 2) 1 = some [Value.slice x26a x26n x26c]) (h12 : lpInf (lpOf cfg a3 0 prot H) ([Value.pointer (some { block := List.length H, off := 0, spot := some [Value.int IntKind.i64 x0a, Value.slice x0ba x0bn x0bc, Value.slice x0ca x0cn x0cc].length }), Value.bool x21a, Value.int IntKind.i64 x21c, Value.int IntKind.i64 (↑x26n : Int), Value.bool false, Value.int IntKind.i64 (↑x26n : Int)], H1) = some (Ex.exit 0, [Value.bool z3, Value.int IntKind.i64 z5, Value.bool z7], H2)) (h13 : callInf cfg 15 [Value.int IntKind.i64 z5] (List.length H) H2 = some (Value.int IntKind.i64 x53, H2)) (h14 : (x53 == 0) = true) : callInf cfg 3 [.agg #[.int .i64 x0a, .slice x0ba x0bn x0bc, .slice x0ca x0cn x0cc]] prot H = some (Value.bool !z3 == z7, H) :=
  fn_of a3 [.e, .v (.agg #[.int .i64 x11a, .slice x11ba x11bn x11bc, .slice x11ca x11cn x11cc]), .v (.bool x12), .e, .b false, .v (.bool x15), .b false, .e, .b false, .b false, .v (.agg #[.int .i64 x20a, .slice x20ba x20bn x20bc, .slice x20ca x20cn x20cc]), .v (.tuple #[.bool x21a, .agg #[.string x21ba, .string x21bb, .string x21bc], .int .i64 x21c]), .e, .h H1, .v (.slice x26a x26n x26c), .e, .lo (.exit 0, [.bool z3, .int .i64 z5, .bool z7], H2), .v (.int .i64 x53), .e, .b true, .b true, .b true, .e, .b true] (fun e => ([Value.int IntKind.i64 x0a, Value.slice x0ba x0bn x0bc, Value.slice x0ca x0cn x0cc].all isCell = true) ∧ (getCells (H ++ [AObj.cells [Value.int IntKind.i64 x0a, Value.slice x0ba x0bn x0bc, Value.slice x0ca x0cn x0cc] 25 [Value.int IntKind.i64 x0a, Value.slice x0ba x0bn x0bc, Value.slice x0ca x0cn x0cc].length OMode.var]) (List.length H) [Value.int IntKind.i64 x0a, Value.slice x0ba x0bn x0bc, Value.slice x0ca x0cn x0cc].length 0 3 = some [Value.int IntKind.i64 x11a, Value.slice x11ba x11bn x11bc, Value.slice x11ca x11cn x11cc]) ∧ (callInf cfg 11 [Value.agg { toList := [Value.int IntKind.i64 x11a, Value.slice x11ba x11bn x11bc, Value.slice x11ca x11cn x11cc] }] (List.length H) (H ++ [AObj.cells [Value.int IntKind.i64 x0a, Value.slice x0ba x0bn x0bc, Value.slice x0ca x0cn x0cc] 25 [Value.int IntKind.i64 x0a, Value.slice x0ba x0bn x0bc, Value.slice x0ca x0cn x0cc].length OMode.var]) = some (Value.bool x12, H ++ [AObj.cells [Value.int IntKind.i64 x0a, Value.slice x0ba x0bn x0bc, Value.slice x0ca x0cn x0cc] 25 [Value.int IntKind.i64 x0a, Value.slice x0ba x0bn x0bc, Value.slice x0ca x0cn x0cc].length OMode.var])) ∧ ((!x12) = false) ∧ (callInf cfg 12 [] (List.length H) (H ++ [AObj.cells [Value.int IntKind.i64 x0a, Value.slice x0ba x0bn x0bc, Value.slice x0ca x0cn x0cc] 25 [Value.int IntKind.i64 x0a, Value.slice x0ba x0bn x0bc, Value.slice x0ca x0cn x0cc].length OMode.var]) = some (Value.bool x15, H ++ [AObj.cells [Value.int IntKind.i64 x0a, Value.slice x0ba x0bn x0bc, Value.slice x0ca x0cn x0cc] 25 [Value.int IntKind.i64 x0a, Value.slice x0ba x0bn x0bc, Value.slice x0ca x0cn x0cc].length OMode.var])) ∧ ((!x12) = false) ∧ ((!x12) = false) ∧ ((!x15) = false) ∧ (getCells (H ++ [AObj.cells [Value.int IntKind.i64 x0a, Value.slice x0ba x0bn x0bc, Value.slice x0ca x0cn x0cc] 25 [Value.int IntKind.i64 x0a, Value.slice x0ba x0bn x0bc, Value.slice x0ca x0cn x0cc].length OMode.var]) (List.length H) [Value.int IntKind.i64 x0a, Value.slice x0ba x0bn x0bc, Value.slice x0ca x0cn x0cc].length 0 3 = some [Value.int IntKind.i64 x20a, Value.slice x20ba x20bn x20bc, Value.slice x20ca x20cn x20cc]) ∧ (callInf cfg 13 [Value.agg { toList := [Value.int IntKind.i64 x20a, Value.slice x20ba x20bn x20bc, Value.slice x20ca x20cn x20cc] }] (List.length H) (H ++ [AObj.cells [Value.int IntKind.i64 x0a, Value.slice x0ba x0bn x0bc, Value.slice x0ca x0cn x0cc] 25 [Value.int IntKind.i64 x0a, Value.slice x0ba x0bn x0bc, Value.slice x0ca x0cn x0cc].length OMode.var]) = some (Value.tuple { toList := [Value.bool x21a, Value.agg { toList := [Value.string x21ba, Value.string x21bb, Value.string x21bc] }, Value.int IntKind.i64 x21c] }, H ++ [AObj.cells [Value.int IntKind.i64 x0a, Value.slice x0ba x0bn x0bc, Value.slice x0ca x0cn x0cc] 25 [Value.int IntKind.i64 x0a, Value.slice x0ba x0bn x0bc, Value.slice x0ca x0cn x0cc].length OMode.var])) ∧ ([Value.string x21ba, Value.string x21bb, Value.string x21bc].length = 3) ∧ (setCells (H ++ [AObj.cells [Value.int IntKind.i64 x0a, Value.slice x0ba x0bn x0bc, Value.slice x0ca x0cn x0cc] 25 [Value.int IntKind.i64 x0a, Value.slice x0ba x0bn x0bc, Value.slice x0ca x0cn x0cc].length OMode.var] ++ [AObj.cells [Value.string { data := { toList := [] } }, Value.string { data := { toList := [] } }, Value.string { data := { toList := [] } }] 29 [Value.string { data := { toList := [] } }, Value.string { data := { toList := [] } }, Value.string { data := { toList := [] } }].length OMode.var]) (List.length H) (List.length (H ++ [AObj.cells [Value.int IntKind.i64 x0a, Value.slice x0ba x0bn x0bc, Value.slice x0ca x0cn x0cc] 25 [Value.int IntKind.i64 x0a, Value.slice x0ba x0bn x0bc, Value.slice x0ca x0cn x0cc].length OMode.var])) [Value.string { data := { toList := [] } }, Value.string { data := { toList := [] } }, Value.string { data := { toList := [] } }].length 0 [Value.string x21ba, Value.string x21bb, Value.string x21bc] = some H1) ∧ (getCells H1 (List.length H) [Value.int IntKind.i64 x0a, Value.slice x0ba x0bn x0bc, Value.slice x0ca x0cn x0cc].length (0 + 2) 1 = some [Value.slice x26a x26n x26c]) ∧ (lpInf (lpOf cfg a3 0 prot H) ([Value.pointer (some { block := List.length H, off := 0, spot := some [Value.int IntKind.i64 x0a, Value.slice x0ba x0bn x0bc, Value.slice x0ca x0cn x0cc].length }), Value.bool x21a, Value.int IntKind.i64 x21c, Value.int IntKind.i64 (↑x26n : Int), Value.bool false, Value.int IntKind.i64 (↑x26n : Int)], H1) = some (Ex.exit 0, [Value.bool z3, Value.int IntKind.i64 z5, Value.bool z7], H2)) ∧ (callInf cfg 15 [Value.int IntKind.i64 z5] (List.length H) H2 = some (Value.int IntKind.i64 x53, H2)) ∧ ((x53 == 0) = true) ∧ ((x53 == 0) = true) ∧ ((x53 == 0) = true) ∧ ((x53 == 0) = true) ∧ e) (by kernel_rfl) ⟨h1, h2, h3, h4, h5, h4, h4, h6, h7, h8, h9, h10, h11, h12, h13, h14, h14, h14, h14, rfl⟩ rfl
theorem f3_F_1 {x0a : Int} {x0ba : Option Addr} {x0bn : Nat} {x0bc : Nat} {x0ca : Option Addr} {x0cn : Nat} {x0cc : Nat} {H : AHeap} {prot : Nat} {x11a : Int} {x11ba : Option Addr} {x11bn : Nat} {x11bc : Nat} {x11ca : Option Addr} {x11cn : Nat} {x11cc : Nat} {x12 : Bool} {x15 : Bool} {x20a : Int} {x20ba : Option Addr} {x20bn : Nat} {x20bc : Nat} {x20ca : Option Addr} {x20cn : Nat} {x20cc : Nat} {x21a : Bool} {x21ba : ByteArray} {x21bb : ByteArray} {x21bc : ByteArray} {x21c : Int} {H1 : AHeap} {x26a : Option Addr} {x26n : Nat} {x26c : Nat} {z3 : Bool} {z5 : Int} {z7 : Bool} {H2 : AHeap} {x53 : Int} (h1 : [Value.int IntKind.i64 x0a, Value.slice x0ba x0bn x0bc, Value.slice x0ca x0cn x0cc].all isCell = true) (h2 : getCells (H ++ [AObj.cells [Value.int IntKind.i64 x0a, Value.slice x0ba x0bn x0bc, Value.slice x0ca x0cn x0cc] 25 [Value.int IntKind.i64 x0a, Value.slice x0ba x0bn x0bc, Value.slice x0ca x0cn x0cc].length OMode.var]) (List.length H) [Value.int IntKind.i64 x0a, Value.slice x0ba x0bn x0bc, Value.slice x0ca x0cn x0cc].length 0 3 = some [Value.int IntKind.i64 x11a, Value.slice x11ba x11bn x11bc, Value.slice x11ca x11cn x11cc]) (h3 : callInf cfg 11 [Value.agg { toList := [Value.int IntKind.i64 x11a, Value.slice x11ba x11bn x11bc, Value.slice x11ca x11cn x11cc] }] (List.length H) (H ++ [AObj.cells [Value.int IntKind.i64 x0a, Value.slice x0ba x0bn x0bc, Value.slice x0ca x0cn x0cc] 25 [Value.int IntKind.i64 x0a, Value.slice x0ba x0bn x0bc, Value.slice x0ca x0cn x0cc].length OMode.var]) = some (Value.bool x12, H ++ [AObj.cells [Value.int IntKind.i64 x0a, Value.slice x0ba x0bn x0bc, Value.slice x0ca x0cn x0cc] 25 [Value.int IntKind.i64 x0a, Value.slice x0ba x0bn x0bc, Value.slice x0ca x0cn x0cc].length OMode.var])) (h4 : (!x12) = false) (h5 : callInf cfg 12 [] (List.length H) (H ++ [AObj.cells [Value.int IntKind.i64 x0a, Value.slice x0ba x0bn x0bc, Value.slice x0ca x0cn x0cc] 25 [Value.int IntKind.i64 x0a, Value.slice x0ba x0bn x0bc, Value.slice x0ca x0cn x0cc].length OMode.var]) = some (Value.bool x15, H ++ [AObj.cells [Value.int IntKind.i64 x0a, Value.slice x0ba x0bn x0bc, Value.slice x0ca x0cn x0cc] 25 [Value.int IntKind.i64 x0a, Value.slice x0ba x0bn x0bc, Value.slice x0ca x0cn x0cc].length OMode.var])) (h6 : (!x15) = false) (h7 : getCells (H ++ [AObj.cells [Value.int IntKind.i64 x0a, Value.slice x0ba x0bn x0bc, Value.slice x0ca x0cn x0cc] 25 [Value.int IntKind.i64 x0a, Value.slice x0ba x0bn x0bc, Value.slice x0ca x0cn x0cc].length OMode.var]) (List.length H) [Value.int IntKind.i64 x0a, Value.slice x0ba x0bn x0bc, Value.slice x0ca x0cn x0cc].length 0 3 = some [Value.int IntKind.i64 x20a, Value.slice x20ba x20bn x20bc, Value.slice x20ca x20cn x20cc]) (h8 : callInf cfg 13 [Value.agg { toList := [Value.int IntKind.i64 x20a, Value.slice x20ba x20bn x20bc, Value.slice x20ca x20cn x20cc] }] (List.length H) (H ++ [AObj.cells [Value.int IntKind.i64 x0a, Value.slice x0ba x0bn x0bc, Value.slice x0ca x0cn x0cc] 25 [Value.int IntKind.i64 x0a, Value.slice x0ba x0bn x0bc, Value.slice x0ca x0cn x0cc].length OMode.var]) = some (Value.tuple { toList := [Value.bool x21a, Value.agg { toList := [Value.string x21ba, Value.string x21bb, Value.string x21bc] }, Value.int IntKind.i64 x21c] }, H ++ [AObj.cells [Value.int IntKind.i64 x0a, Value.slice x0ba x0bn x0bc, Value.slice x0ca x0cn x0cc] 25 [Value.int IntKind.i64 x0a, Value.slice x0ba x0bn x0bc, Value.slice x0ca x0cn x0cc].length OMode.var])) (h9 : [Value.string x21ba, Value.string x21bb, Value.string x21bc].length = 3) (h10 : setCells (H ++ [AObj.cells [Value.int IntKind.i64 x0a, Value.slice x0ba x0bn x0bc, Value.slice x0ca x0cn x0cc] 25 [Value.int IntKind.i64 x0a, Value.slice x0ba x0bn x0bc, Value.slice x0ca x0cn x0cc].length OMode.var] ++ [AObj.cells [Value.string { data := { toList := [] } }, Value.string { data := { toList := [] } }, Value.string { data := { toList := [] } }] 29 [Value.string { data := { toList := [] } }, Value.string { data := { toList := [] } }, Value.string { data := { toList := [] } }].length OMode.var]) (List.length H) (List.length (H ++ [AObj.cells [Value.int IntKind.i64 x0a, Value.slice x0ba x0bn x0bc, Value.slice x0ca x0cn x0cc] 25 [Value.int IntKind.i64 x0a, Value.slice x0ba x0bn x0bc, Value.slice x0ca x0cn x0cc].length OMode.var])) [Value.string { data := { toList := [] } }, Value.string { data := { toList := [] } }, Value.string { data := { toList := [] } }].length 0 [Value.string x21ba, Value.string x21bb, Value.string x21bc] = some H1) (h11 : getCells H1 (List.length H) [Value.int IntKind.i64 x0a, Value.slice x0ba x0bn x0bc, Value.slice x0ca x0cn x0cc].length (0 + 2) 1 = some [Value.slice x26a x26n x26c]) (h12 : lpInf (lpOf cfg a3 0 prot H) ([Value.pointer (some { block := List.length H, off := 0, spot := some [Value.int IntKind.i64 x0a, Value.slice x0ba x0bn x0bc, Value.slice x0ca x0cn x0cc].length }), Value.bool x21a, Value.int IntKind.i64 x21c, Value.int IntKind.i64 (↑x26n : Int), Value.bool false, Value.int IntKind.i64 (↑x26n : Int)], H1) = some (Ex.exit 0, [Value.bool z3, Value.int IntKind.i64 z5, Value.bool z7], H2)) (h13 : callInf cfg 15 [Value.int IntKind.i64 z5] (List.length H) H2 = some (Value.int IntKind.i64 x53, H2)) (h14 : (x53 == 0) = false) : callInf cfg 3 [.agg #[.int .i64 x0a, .slice x0ba x0bn x0bc, .slice x0ca x0cn x0cc]] prot H = some (Value.bool false, H) :=
  fn_of a3 [.e, .v (.agg #[.int .i64 x11a, .slice x11ba x11bn x11bc, .slice x11ca x11cn x11cc]), .v (.bool x12), .e, .b false, .v (.bool x15), .b false, .e, .b false, .b false, .v (.agg #[.int .i64 x20a, .slice x20ba x20bn x20bc, .slice x20ca x20cn x20cc]), .v (.tuple #[.bool x21a, .agg #[.string x21ba, .string x21bb, .string x21bc], .int .i64 x21c]), .e, .h H1, .v (.slice x26a x26n x26c), .e, .lo (.exit 0, [.bool z3, .int .i64 z5, .bool z7], H2), .v (.int .i64 x53), .e, .b false, .b false, .b false, .b false] (fun e => ([Value.int IntKind.i64 x0a, Value.slice x0ba x0bn x0bc, Value.slice x0ca x0cn x0cc].all isCell = true) ∧ (getCells (H ++ [AObj.cells [Value.int IntKind.i64 x0a, Value.slice x0ba x0bn x0bc, Value.slice x0ca x0cn x0cc] 25 [Value.int IntKind.i64 x0a, Value.slice x0ba x0bn x0bc, Value.slice x0ca x0cn x0cc].length OMode.var]) (List.length H) [Value.int IntKind.i64 x0a, Value.slice x0ba x0bn x0bc, Value.slice x0ca x0cn x0cc].length 0 3 = some [Value.int IntKind.i64 x11a, Value.slice x11ba x11bn x11bc, Value.slice x11ca x11cn x11cc]) ∧ (callInf cfg 11 [Value.agg { toList := [Value.int IntKind.i64 x11a, Value.slice x11ba x11bn x11bc, Value.slice x11ca x11cn x11cc] }] (List.length H) (H ++ [AObj.cells [Value.int IntKind.i64 x0a, Value.slice x0ba x0bn x0bc, Value.slice x0ca x0cn x0cc] 25 [Value.int IntKind.i64 x0a, Value.slice x0ba x0bn x0bc, Value.slice x0ca x0cn x0cc].length OMode.var]) = some (Value.bool x12, H ++ [AObj.cells [Value.int IntKind.i64 x0a, Value.slice x0ba x0bn x0bc, Value.slice x0ca x0cn x0cc] 25 [Value.int IntKind.i64 x0a, Value.slice x0ba x0bn x0bc, Value.slice x0ca x0cn x0cc].length OMode.var])) ∧ ((!x12) = false) ∧ (callInf cfg 12 [] (List.length H) (H ++ [AObj.cells [Value.int IntKind.i64 x0a, Value.slice x0ba x0bn x0bc, Value.slice x0ca x0cn x0cc] 25 [Value.int IntKind.i64 x0a, Value.slice x0ba x0bn x0bc, Value.slice x0ca x0cn x0cc].length OMode.var]) = some (Value.bool x15, H ++ [AObj.cells [Value.int IntKind.i64 x0a, Value.slice x0ba x0bn x0bc, Value.slice x0ca x0cn x0cc] 25 [Value.int IntKind.i64 x0a, Value.slice x0ba x0bn x0bc, Value.slice x0ca x0cn x0cc].length OMode.var])) ∧ ((!x12) = false) ∧ ((!x12) = false) ∧ ((!x15) = false) ∧ (getCells (H ++ [AObj.cells [Value.int IntKind.i64 x0a, Value.slice x0ba x0bn x0bc, Value.slice x0ca x0cn x0cc] 25 [Value.int IntKind.i64 x0a, Value.slice x0ba x0bn x0bc, Value.slice x0ca x0cn x0cc].length OMode.var]) (List.length H) [Value.int IntKind.i64 x0a, Value.slice x0ba x0bn x0bc, Value.slice x0ca x0cn x0cc].length 0 3 = some [Value.int IntKind.i64 x20a, Value.slice x20ba x20bn x20bc, Value.slice x20ca x20cn x20cc]) ∧ (callInf cfg 13 [Value.agg { toList := [Value.int IntKind.i64 x20a, Value.slice x20ba x20bn x20bc, Value.slice x20ca x20cn x20cc] }] (List.length H) (H ++ [AObj.cells [Value.int IntKind.i64 x0a, Value.slice x0ba x0bn x0bc, Value.slice x0ca x0cn x0cc] 25 [Value.int IntKind.i64 x0a, Value.slice x0ba x0bn x0bc, Value.slice x0ca x0cn x0cc].length OMode.var]) = some (Value.tuple { toList := [Value.bool x21a, Value.agg { toList := [Value.string x21ba, Value.string x21bb, Value.string x21bc] }, Value.int IntKind.i64 x21c] }, H ++ [AObj.cells [Value.int IntKind.i64 x0a, Value.slice x0ba x0bn x0bc, Value.slice x0ca x0cn x0cc] 25 [Value.int IntKind.i64 x0a, Value.slice x0ba x0bn x0bc, Value.slice x0ca x0cn x0cc].length OMode.var])) ∧ ([Value.string x21ba, Value.string x21bb, Value.string x21bc].length = 3) ∧ (setCells (H ++ [AObj.cells [Value.int IntKind.i64 x0a, Value.slice x0ba x0bn x0bc, Value.slice x0ca x0cn x0cc] 25 [Value.int IntKind.i64 x0a, Value.slice x0ba x0bn x0bc, Value.slice x0ca x0cn x0cc].length OMode.var] ++ [AObj.cells [Value.string { data := { toList := [] } }, Value.string { data := { toList := [] } }, Value.string { data := { toList := [] } }] 29 [Value.string { data := { toList := [] } }, Value.string { data := { toList := [] } }, Value.string { data := { toList := [] } }].length OMode.var]) (List.length H) (List.length (H ++ [AObj.cells [Value.int IntKind.i64 x0a, Value.slice x0ba x0bn x0bc, Value.slice x0ca x0cn x0cc] 25 [Value.int IntKind.i64 x0a, Value.slice x0ba x0bn x0bc, Value.slice x0ca x0cn x0cc].length OMode.var])) [Value.string { data := { toList := [] } }, Value.string { data := { toList := [] } }, Value.string { data := { toList := [] } }].length 0 [Value.string x21ba, Value.string x21bb, Value.string x21bc] = some H1) ∧ (getCells H1 (List.length H) [Value.int IntKind.i64 x0a, Value.slice x0ba x0bn x0bc, Value.slice x0ca x0cn x0cc].length (0 + 2) 1 = some [Value.slice x26a x26n x26c]) ∧ (lpInf (lpOf cfg a3 0 prot H) ([Value.pointer (some { block := List.length H, off := 0, spot := some [Value.int IntKind.i64 x0a, Value.slice x0ba x0bn x0bc, Value.slice x0ca x0cn x0cc].length }), Value.bool x21a, Value.int IntKind.i64 x21c, Value.int IntKind.i64 (↑x26n : Int), Value.bool false, Value.int IntKind.i64 (↑x26n : Int)], H1) = some (Ex.exit 0, [Value.bool z3, Value.int IntKind.i64 z5, Value.bool z7], H2)) ∧ (callInf cfg 15 [Value.int IntKind.i64 z5] (List.length H) H2 = some (Value.int IntKind.i64 x53, H2)) ∧ ((x53 == 0) = false) ∧ ((x53 == 0) = false) ∧ ((x53 == 0) = false) ∧ ((x53 == 0) = false) ∧ e) (by kernel_rfl) ⟨h1, h2, h3, h4, h5, h4, h4, h6, h7, h8, h9, h10, h11, h12, h13, h14, h14, h14, h14, rfl⟩ rfl
theorem f3_F_2 {x0a : Int} {x0ba : Option Addr} {x0bn : Nat} {x0bc : Nat} {x0ca : Option Addr} {x0cn : Nat} {x0cc : Nat} {H : AHeap} {prot : Nat} {x11a : Int} {x11ba : Option Addr} {x11bn : Nat} {x11bc : Nat} {x11ca : Option Addr} {x11cn : Nat} {x11cc : Nat} {x12 : Bool} {x15 : Bool} {x18 : Bool} (h1 : [Value.int IntKind.i64 x0a, Value.slice x0ba x0bn x0bc, Value.slice x0ca x0cn x0cc].all isCell = true) (h2 : getCells (H ++ [AObj.cells [Value.int IntKind.i64 x0a, Value.slice x0ba x0bn x0bc, Value.slice x0ca x0cn x0cc] 25 [Value.int IntKind.i64 x0a, Value.slice x0ba x0bn x0bc, Value.slice x0ca x0cn x0cc].length OMode.var]) (List.length H) [Value.int IntKind.i64 x0a, Value.slice x0ba x0bn x0bc, Value.slice x0ca x0cn x0cc].length 0 3 = some [Value.int IntKind.i64 x11a, Value.slice x11ba x11bn x11bc, Value.slice x11ca x11cn x11cc]) (h3 : callInf cfg 11 [Value.agg { toList := [Value.int IntKind.i64 x11a, Value.slice x11ba x11bn x11bc, Value.slice x11ca x11cn x11cc] }] (List.length H) (H ++ [AObj.cells [Value.int IntKind.i64 x0a, Value.slice x0ba x0bn x0bc, Value.slice x0ca x0cn x0cc] 25 [Value.int IntKind.i64 x0a, Value.slice x0ba x0bn x0bc, Value.slice x0ca x0cn x0cc].length OMode.var]) = some (Value.bool x12, H ++ [AObj.cells [Value.int IntKind.i64 x0a, Value.slice x0ba x0bn x0bc, Value.slice x0ca x0cn x0cc] 25 [Value.int IntKind.i64 x0a, Value.slice x0ba x0bn x0bc, Value.slice x0ca x0cn x0cc].length OMode.var])) (h4 : (!x12) = false) (h5 : callInf cfg 12 [] (List.length H) (H ++ [AObj.cells [Value.int IntKind.i64 x0a, Value.slice x0ba x0bn x0bc, Value.slice x0ca x0cn x0cc] 25 [Value.int IntKind.i64 x0a, Value.slice x0ba x0bn x0bc, Value.slice x0ca x0cn x0cc].length OMode.var]) = some (Value.bool x15, H ++ [AObj.cells [Value.int IntKind.i64 x0a, Value.slice x0ba x0bn x0bc, Value.slice x0ca x0cn x0cc] 25 [Value.int IntKind.i64 x0a, Value.slice x0ba x0bn x0bc, Value.slice x0ca x0cn x0cc].length OMode.var])) (h6 : (!x15) = true) (h7 : callInf cfg 12 [] (List.length H) (H ++ [AObj.cells [Value.int IntKind.i64 x0a, Value.slice x0ba x0bn x0bc, Value.slice x0ca x0cn x0cc] 25 [Value.int IntKind.i64 x0a, Value.slice x0ba x0bn x0bc, Value.slice x0ca x0cn x0cc].length OMode.var]) = some (Value.bool x18, H ++ [AObj.cells [Value.int IntKind.i64 x0a, Value.slice x0ba x0bn x0bc, Value.slice x0ca x0cn x0cc] 25 [Value.int IntKind.i64 x0a, Value.slice x0ba x0bn x0bc, Value.slice x0ca x0cn x0cc].length OMode.var])) : callInf cfg 3 [.agg #[.int .i64 x0a, .slice x0ba x0bn x0bc, .slice x0ca x0cn x0cc]] prot H = some (Value.bool x18, H) :=
  fn_of a3 [.e, .v (.agg #[.int .i64 x11a, .slice x11ba x11bn x11bc, .slice x11ca x11cn x11cc]), .v (.bool x12), .e, .b false, .v (.bool x15), .b false, .e, .b false, .b true, .v (.bool x18)] (fun e => ([Value.int IntKind.i64 x0a, Value.slice x0ba x0bn x0bc, Value.slice x0ca x0cn x0cc].all isCell = true) ∧ (getCells (H ++ [AObj.cells [Value.int IntKind.i64 x0a, Value.slice x0ba x0bn x0bc, Value.slice x0ca x0cn x0cc] 25 [Value.int IntKind.i64 x0a, Value.slice x0ba x0bn x0bc, Value.slice x0ca x0cn x0cc].length OMode.var]) (List.length H) [Value.int IntKind.i64 x0a, Value.slice x0ba x0bn x0bc, Value.slice x0ca x0cn x0cc].length 0 3 = some [Value.int IntKind.i64 x11a, Value.slice x11ba x11bn x11bc, Value.slice x11ca x11cn x11cc]) ∧ (callInf cfg 11 [Value.agg { toList := [Value.int IntKind.i64 x11a, Value.slice x11ba x11bn x11bc, Value.slice x11ca x11cn x11cc] }] (List.length H) (H ++ [AObj.cells [Value.int IntKind.i64 x0a, Value.slice x0ba x0bn x0bc, Value.slice x0ca x0cn x0cc] 25 [Value.int IntKind.i64 x0a, Value.slice x0ba x0bn x0bc, Value.slice x0ca x0cn x0cc].length OMode.var]) = some (Value.bool x12, H ++ [AObj.cells [Value.int IntKind.i64 x0a, Value.slice x0ba x0bn x0bc, Value.slice x0ca x0cn x0cc] 25 [Value.int IntKind.i64 x0a, Value.slice x0ba x0bn x0bc, Value.slice x0ca x0cn x0cc].length OMode.var])) ∧ ((!x12) = false) ∧ (callInf cfg 12 [] (List.length H) (H ++ [AObj.cells [Value.int IntKind.i64 x0a, Value.slice x0ba x0bn x0bc, Value.slice x0ca x0cn x0cc] 25 [Value.int IntKind.i64 x0a, Value.slice x0ba x0bn x0bc, Value.slice x0ca x0cn x0cc].length OMode.var]) = some (Value.bool x15, H ++ [AObj.cells [Value.int IntKind.i64 x0a, Value.slice x0ba x0bn x0bc, Value.slice x0ca x0cn x0cc] 25 [Value.int IntKind.i64 x0a, Value.slice x0ba x0bn x0bc, Value.slice x0ca x0cn x0cc].length OMode.var])) ∧ ((!x12) = false) ∧ ((!x12) = false) ∧ ((!x15) = true) ∧ (callInf cfg 12 [] (List.length H) (H ++ [AObj.cells [Value.int IntKind.i64 x0a, Value.slice x0ba x0bn x0bc, Value.slice x0ca x0cn x0cc] 25 [Value.int IntKind.i64 x0a, Value.slice x0ba x0bn x0bc, Value.slice x0ca x0cn x0cc].length OMode.var]) = some (Value.bool x18, H ++ [AObj.cells [Value.int IntKind.i64 x0a, Value.slice x0ba x0bn x0bc, Value.slice x0ca x0cn x0cc] 25 [Value.int IntKind.i64 x0a, Value.slice x0ba x0bn x0bc, Value.slice x0ca x0cn x0cc].length OMode.var])) ∧ e) (by kernel_rfl) ⟨h1, h2, h3, h4, h5, h4, h4, h6, h7, rfl⟩ rfl
theorem f3_F_3 {x0a : Int} {x0ba : Option Addr} {x0bn : Nat} {x0bc : Nat} {x0ca : Option Addr} {x0cn : Nat} {x0cc : Nat} {H : AHeap} {prot : Nat} {x11a : Int} {x11ba : Option Addr} {x11bn : Nat} {x11bc : Nat} {x11ca : Option Addr} {x11cn : Nat} {x11cc : Nat} {x12 : Bool} {x18 : Bool} (h1 : [Value.int IntKind.i64 x0a, Value.slice x0ba x0bn x0bc, Value.slice x0ca x0cn x0cc].all isCell = true) (h2 : getCells (H ++ [AObj.cells [Value.int IntKind.i64 x0a, Value.slice x0ba x0bn x0bc, Value.slice x0ca x0cn x0cc] 25 [Value.int IntKind.i64 x0a, Value.slice x0ba x0bn x0bc, Value.slice x0ca x0cn x0cc].length OMode.var]) (List.length H) [Value.int IntKind.i64 x0a, Value.slice x0ba x0bn x0bc, Value.slice x0ca x0cn x0cc].length 0 3 = some [Value.int IntKind.i64 x11a, Value.slice x11ba x11bn x11bc, Value.slice x11ca x11cn x11cc]) (h3 : callInf cfg 11 [Value.agg { toList := [Value.int IntKind.i64 x11a, Value.slice x11ba x11bn x11bc, Value.slice x11ca x11cn x11cc] }] (List.length H) (H ++ [AObj.cells [Value.int IntKind.i64 x0a, Value.slice x0ba x0bn x0bc, Value.slice x0ca x0cn x0cc] 25 [Value.int IntKind.i64 x0a, Value.slice x0ba x0bn x0bc, Value.slice x0ca x0cn x0cc].length OMode.var]) = some (Value.bool x12, H ++ [AObj.cells [Value.int IntKind.i64 x0a, Value.slice x0ba x0bn x0bc, Value.slice x0ca x0cn x0cc] 25 [Value.int IntKind.i64 x0a, Value.slice x0ba x0bn x0bc, Value.slice x0ca x0cn x0cc].length OMode.var])) (h4 : (!x12) = true) (h5 : callInf cfg 12 [] (List.length H) (H ++ [AObj.cells [Value.int IntKind.i64 x0a, Value.slice x0ba x0bn x0bc, Value.slice x0ca x0cn x0cc] 25 [Value.int IntKind.i64 x0a, Value.slice x0ba x0bn x0bc, Value.slice x0ca x0cn x0cc].length OMode.var]) = some (Value.bool x18, H ++ [AObj.cells [Value.int IntKind.i64 x0a, Value.slice x0ba x0bn x0bc, Value.slice x0ca x0cn x0cc] 25 [Value.int IntKind.i64 x0a, Value.slice x0ba x0bn x0bc, Value.slice x0ca x0cn x0cc].length OMode.var])) : callInf cfg 3 [.agg #[.int .i64 x0a, .slice x0ba x0bn x0bc, .slice x0ca x0cn x0cc]] prot H = some (Value.bool x18, H) :=
  fn_of a3 [.e, .v (.agg #[.int .i64 x11a, .slice x11ba x11bn x11bc, .slice x11ca x11cn x11cc]), .v (.bool x12), .e, .b true, .b true, .b true, .b true, .v (.bool x18)] (fun e => ([Value.int IntKind.i64 x0a, Value.slice x0ba x0bn x0bc, Value.slice x0ca x0cn x0cc].all isCell = true) ∧ (getCells (H ++ [AObj.cells [Value.int IntKind.i64 x0a, Value.slice x0ba x0bn x0bc, Value.slice x0ca x0cn x0cc] 25 [Value.int IntKind.i64 x0a, Value.slice x0ba x0bn x0bc, Value.slice x0ca x0cn x0cc].length OMode.var]) (List.length H) [Value.int IntKind.i64 x0a, Value.slice x0ba x0bn x0bc, Value.slice x0ca x0cn x0cc].length 0 3 = some [Value.int IntKind.i64 x11a, Value.slice x11ba x11bn x11bc, Value.slice x11ca x11cn x11cc]) ∧ (callInf cfg 11 [Value.agg { toList := [Value.int IntKind.i64 x11a, Value.slice x11ba x11bn x11bc, Value.slice x11ca x11cn x11cc] }] (List.length H) (H ++ [AObj.cells [Value.int IntKind.i64 x0a, Value.slice x0ba x0bn x0bc, Value.slice x0ca x0cn x0cc] 25 [Value.int IntKind.i64 x0a, Value.slice x0ba x0bn x0bc, Value.slice x0ca x0cn x0cc].length OMode.var]) = some (Value.bool x12, H ++ [AObj.cells [Value.int IntKind.i64 x0a, Value.slice x0ba x0bn x0bc, Value.slice x0ca x0cn x0cc] 25 [Value.int IntKind.i64 x0a, Value.slice x0ba x0bn x0bc, Value.slice x0ca x0cn x0cc].length OMode.var])) ∧ ((!x12) = true) ∧ ((!x12) = true) ∧ ((!x12) = true) ∧ (true = true) ∧ (callInf cfg 12 [] (List.length H) (H ++ [AObj.cells [Value.int IntKind.i64 x0a, Value.slice x0ba x0bn x0bc, Value.slice x0ca x0cn x0cc] 25 [Value.int IntKind.i64 x0a, Value.slice x0ba x0bn x0bc, Value.slice x0ca x0cn x0cc].length OMode.var]) = some (Value.bool x18, H ++ [AObj.cells [Value.int IntKind.i64 x0a, Value.slice x0ba x0bn x0bc, Value.slice x0ca x0cn x0cc] 25 [Value.int IntKind.i64 x0a, Value.slice x0ba x0bn x0bc, Value.slice x0ca x0cn x0cc].length OMode.var])) ∧ e) (by kernel_rfl) ⟨h1, h2, h3, h4, h4, h4, rfl, h5, rfl⟩ rfl
theorem f3_L0_0 {x1p : Nat} {x1o : Nat} {x1l : Nat} {x3 : Bool} {x5 : Int} {x6 : Int} {x7 : Bool} {x8 : Int} {H0 : AHeap} {prot : Nat} {H : AHeap} (h1 : Fit IntKind.i64 (2 * x6)) (h2 : x8 < 2 * x6) (h3 : (!x7) = false) : lpOf cfg a3 0 prot H0 ([.pointer (some ⟨x1p, x1o, some x1l⟩), .bool x3, .int .i64 x5, .int .i64 x6, .bool x7, .int .i64 x8], H) = some (Sum.inr (Ex.exit 0, [Value.bool x3, Value.int IntKind.i64 x5, Value.bool x7], H)) :=
  lp_of [.e, .e, .b true, .b true, .e, .b true, .b false] (fun e => (Fit IntKind.i64 (2 * x6)) ∧ (decide (x8 < 2 * x6) = true) ∧ (decide (x8 < 2 * x6) = true) ∧ (decide (x8 < 2 * x6) = true) ∧ ((!x7) = false) ∧ e) (by kernel_rfl) ⟨h1, decide_eq_true h2, decide_eq_true h2, decide_eq_true h2, h3, rfl⟩
theorem f3_L0_1 {x1p : Nat} {x1o : Nat} {x1l : Nat} {x3 : Bool} {x5 : Int} {x6 : Int} {x7 : Bool} {x8 : Int} {H0 : AHeap} {prot : Nat} {H : AHeap} {x40a : Int} {x40ba : Option Addr} {x40bn : Nat} {x40bc : Nat} {x40ca : Option Addr} {x40cn : Nat} {x40cc : Nat} {x42a : Int} {x42b : Int} {x46 : Int} (h1 : Fit IntKind.i64 (2 * x6)) (h2 : x8 < 2 * x6) (h3 : (!x7) = true) (h4 : getCells H x1p x1l x1o 3 = some [Value.int IntKind.i64 x40a, Value.slice x40ba x40bn x40bc, Value.slice x40ca x40cn x40cc]) (h5 : callInf cfg 14 [Value.agg { toList := [Value.int IntKind.i64 x40a, Value.slice x40ba x40bn x40bc, Value.slice x40ca x40cn x40cc] }, Value.int IntKind.i64 x8] (List.length H0) H = some (Value.tuple { toList := [Value.int IntKind.u64 x42a, Value.int IntKind.i64 x42b] }, H)) (h6 : callInf cfg 15 [Value.int IntKind.i64 x42b] (List.length H0) H = some (Value.int IntKind.i64 x46, H)) (h7 : (x46 != 0) = true) (h8 : Fit IntKind.i64 (x8 + 1)) : lpOf cfg a3 0 prot H0 ([.pointer (some ⟨x1p, x1o, some x1l⟩), .bool x3, .int .i64 x5, .int .i64 x6, .bool x7, .int .i64 x8], H) = some (Sum.inl ([Value.pointer (some { block := x1p, off := x1o, spot := some x1l }), Value.bool x3, Value.int IntKind.i64 x5, Value.int IntKind.i64 x6, Value.bool true, Value.int IntKind.i64 (x8 + 1)], H)) :=
  lp_of [.e, .e, .b true, .b true, .e, .b true, .b true, .v (.agg #[.int .i64 x40a, .slice x40ba x40bn x40bc, .slice x40ca x40cn x40cc]), .v (.tuple #[.int .u64 x42a, .int .i64 x42b]), .v (.int .i64 x46), .e, .b true, .b true, .b true, .e] (fun e => (Fit IntKind.i64 (2 * x6)) ∧ (decide (x8 < 2 * x6) = true) ∧ (decide (x8 < 2 * x6) = true) ∧ (decide (x8 < 2 * x6) = true) ∧ ((!x7) = true) ∧ (getCells H x1p x1l x1o 3 = some [Value.int IntKind.i64 x40a, Value.slice x40ba x40bn x40bc, Value.slice x40ca x40cn x40cc]) ∧ (callInf cfg 14 [Value.agg { toList := [Value.int IntKind.i64 x40a, Value.slice x40ba x40bn x40bc, Value.slice x40ca x40cn x40cc] }, Value.int IntKind.i64 x8] (List.length H0) H = some (Value.tuple { toList := [Value.int IntKind.u64 x42a, Value.int IntKind.i64 x42b] }, H)) ∧ (callInf cfg 15 [Value.int IntKind.i64 x42b] (List.length H0) H = some (Value.int IntKind.i64 x46, H)) ∧ ((x46 != 0) = true) ∧ ((x46 != 0) = true) ∧ ((x46 != 0) = true) ∧ (Fit IntKind.i64 (x8 + 1)) ∧ e) (by kernel_rfl) ⟨h1, decide_eq_true h2, decide_eq_true h2, decide_eq_true h2, h3, h4, h5, h6, h7, h7, h7, h8, rfl⟩
theorem f3_L0_2 {x1p : Nat} {x1o : Nat} {x1l : Nat} {x3 : Bool} {x5 : Int} {x6 : Int} {x7 : Bool} {x8 : Int} {H0 : AHeap} {prot : Nat} {H : AHeap} {x40a : Int} {x40ba : Option Addr} {x40bn : Nat} {x40bc : Nat} {x40ca : Option Addr} {x40cn : Nat} {x40cc : Nat} {x42a : Int} {x42b : Int} {x46 : Int} (h1 : Fit IntKind.i64 (2 * x6)) (h2 : x8 < 2 * x6) (h3 : (!x7) = true) (h4 : getCells H x1p x1l x1o 3 = some [Value.int IntKind.i64 x40a, Value.slice x40ba x40bn x40bc, Value.slice x40ca x40cn x40cc]) (h5 : callInf cfg 14 [Value.agg { toList := [Value.int IntKind.i64 x40a, Value.slice x40ba x40bn x40bc, Value.slice x40ca x40cn x40cc] }, Value.int IntKind.i64 x8] (List.length H0) H = some (Value.tuple { toList := [Value.int IntKind.u64 x42a, Value.int IntKind.i64 x42b] }, H)) (h6 : callInf cfg 15 [Value.int IntKind.i64 x42b] (List.length H0) H = some (Value.int IntKind.i64 x46, H)) (h7 : (x46 != 0) = false) (h8 : Fit IntKind.i64 (x8 + 1)) : lpOf cfg a3 0 prot H0 ([.pointer (some ⟨x1p, x1o, some x1l⟩), .bool x3, .int .i64 x5, .int .i64 x6, .bool x7, .int .i64 x8], H) = some (Sum.inl ([Value.pointer (some { block := x1p, off := x1o, spot := some x1l }), Value.bool x3, Value.int IntKind.i64 x5, Value.int IntKind.i64 x6, Value.bool (decide (x42a > 0)), Value.int IntKind.i64 (x8 + 1)], H)) :=
  lp_of [.e, .e, .b true, .b true, .e, .b true, .b true, .v (.agg #[.int .i64 x40a, .slice x40ba x40bn x40bc, .slice x40ca x40cn x40cc]), .v (.tuple #[.int .u64 x42a, .int .i64 x42b]), .v (.int .i64 x46), .e, .b false, .b false, .e, .b false, .e] (fun e => (Fit IntKind.i64 (2 * x6)) ∧ (decide (x8 < 2 * x6) = true) ∧ (decide (x8 < 2 * x6) = true) ∧ (decide (x8 < 2 * x6) = true) ∧ ((!x7) = true) ∧ (getCells H x1p x1l x1o 3 = some [Value.int IntKind.i64 x40a, Value.slice x40ba x40bn x40bc, Value.slice x40ca x40cn x40cc]) ∧ (callInf cfg 14 [Value.agg { toList := [Value.int IntKind.i64 x40a, Value.slice x40ba x40bn x40bc, Value.slice x40ca x40cn x40cc] }, Value.int IntKind.i64 x8] (List.length H0) H = some (Value.tuple { toList := [Value.int IntKind.u64 x42a, Value.int IntKind.i64 x42b] }, H)) ∧ (callInf cfg 15 [Value.int IntKind.i64 x42b] (List.length H0) H = some (Value.int IntKind.i64 x46, H)) ∧ ((x46 != 0) = false) ∧ ((x46 != 0) = false) ∧ ((x46 != 0) = false) ∧ (Fit IntKind.i64 (x8 + 1)) ∧ e) (by kernel_rfl) ⟨h1, decide_eq_true h2, decide_eq_true h2, decide_eq_true h2, h3, h4, h5, h6, h7, h7, h7, h8, rfl⟩
theorem f3_L0_3 {x1p : Nat} {x1o : Nat} {x1l : Nat} {x3 : Bool} {x5 : Int} {x6 : Int} {x7 : Bool} {x8 : Int} {H0 : AHeap} {prot : Nat} {H : AHeap} (h1 : Fit IntKind.i64 (2 * x6)) (h2 : ¬(x8 < 2 * x6)) : lpOf cfg a3 0 prot H0 ([.pointer (some ⟨x1p, x1o, some x1l⟩), .bool x3, .int .i64 x5, .int .i64 x6, .bool x7, .int .i64 x8], H) = some (Sum.inr (Ex.exit 0, [Value.bool x3, Value.int IntKind.i64 x5, Value.bool x7], H)) :=
  lp_of [.e, .e, .b false, .b false, .b false, .b false] (fun e => (Fit IntKind.i64 (2 * x6)) ∧ (decide (x8 < 2 * x6) = false) ∧ (decide (x8 < 2 * x6) = false) ∧ (decide (x8 < 2 * x6) = false) ∧ (false = false) ∧ e) (by kernel_rfl) ⟨h1, decide_eq_false h2, decide_eq_false h2, decide_eq_false h2, rfl, rfl⟩
end Go.Proofs.Ythjkodbinkiifaa.Am23
namespace Go.Proofs.Ythjkodbinkiifaa.Am23
open Go Go.Proofs.Ythjkodbinkiifaa.Am

theorem pigeon : ∀ (n : Nat) (f : Nat → Nat), (∀ i, i ≤ n → f i < n) → ∃ i j, i < j ∧ j ≤ n ∧ f i = f j
  | 0, f, h => by have := h 0 (Nat.le_refl _); omega
  | n + 1, f, h => by
    by_cases hh : ∃ i, i ≤ n ∧ f i = f (n + 1)
    · obtain ⟨i, h1, h2⟩ := hh
      exact ⟨i, n + 1, by omega, by omega, h2⟩
    · have hne : ∀ i, i ≤ n → f i ≠ f (n + 1) := fun i hi he => hh ⟨i, hi, he⟩
      have hv := h (n + 1) (Nat.le_refl _)
      obtain ⟨i, j, h1, h2, h3⟩ := pigeon n (fun i => if f i = n then f (n + 1) else f i) (fun i hi => by
        have h1 := h i (by omega)
        have h2 := hne i hi
        split <;> omega)
      refine ⟨i, j, h1, by omega, ?_⟩
      have hi := hne i (by omega)
      have hj := hne j h2
      split at h3 <;> split at h3 <;> omega

theorem pass_pos {k : Nat} {xs : List Int} {bs : List Bool} (hG : Good k xs bs) {C : List Nat} : ∀ (d i : Nat) (D : List Nat), i + d = xs.length → D.length = bs.length → ∀ s, s < bs.length →
    (0 < (pass k xs C d i D).getD s 0 ↔ 0 < D.getD s 0 ∨ ∃ j, i ≤ j ∧ j < xs.length ∧ j / k = s ∧ 0 < C.getD (xs.getD j 0).toNat 0)
  | 0, i, D, hi, hD, s, hs => by
    simp only [pass]
    exact ⟨.inl, fun h => by rcases h with h | ⟨j, h1, h2, _⟩; exact h; omega⟩
  | d + 1, i, D, hi, hD, s, hs => by
    have hk := hG.k1
    have hxl := hG.nx
    have hsi : i / k < bs.length := Nat.div_lt_of_lt_mul (by rw [Nat.mul_comm]; omega)
    simp only [pass]
    rw [pass_pos hG d (i + 1) _ (by omega) (by simp [hD]) s hs, getD_set (by omega)]
    constructor
    · rintro (h | ⟨j, h1, h2, h3, h4⟩)
      · by_cases he : s = i / k
        · rw [if_pos he] at h
          by_cases hc : 0 < C.getD (xs.getD i 0).toNat 0
          · exact .inr ⟨i, Nat.le_refl _, by omega, he.symm, hc⟩
          · exact .inl (by rw [he]; omega)
        · rw [if_neg he] at h; exact .inl h
      · exact .inr ⟨j, by omega, h2, h3, h4⟩
    · rintro (h | ⟨j, h1, h2, h3, h4⟩)
      · by_cases he : s = i / k
        · rw [if_pos he]; subst he; exact .inl (by omega)
        · rw [if_neg he]; exact .inl h
      · by_cases he : j = i
        · subst he; rw [if_pos h3.symm]; exact .inl (by omega)
        · exact .inr ⟨j, by omega, h2, h3, h4⟩
/-- Words of a length are counted where there are some. -/
theorem row_pos {k : Nat} {xs : List Int} {bs : List Bool} (hG : Good k xs bs) : ∀ (m s : Nat), s < bs.length → (0 < (rowC k xs bs m).getD s 0 ↔ ∃ w, Wk k w ∧ w.length = m ∧ bs.getD (go k xs s w) false = true)
  | 0, s, hs => by
    simp only [rowC, List.getD_eq_getElem?_getD, List.getElem?_map, List.getElem?_eq_getElem hs, Option.map_some, Option.getD_some]
    constructor
    · intro h
      refine ⟨[], fun c hc => (by cases hc), rfl, ?_⟩
      show bs[s]?.getD false = true
      rw [List.getElem?_eq_getElem hs]
      cases hb : bs[s] with
      | true => rfl
      | false => rw [hb] at h; simp [b2n] at h
    · rintro ⟨w, _, h2, h3⟩
      obtain rfl := List.length_eq_zero_iff.1 h2
      have h3 : bs[s]?.getD false = true := h3
      rw [List.getElem?_eq_getElem hs] at h3
      have h3 : bs[s] = true := h3
      rw [h3]
      simp [b2n]
  | m + 1, s, hs => by
    have hk := hG.k1
    simp only [rowC]
    rw [pass_pos hG xs.length 0 _ (by omega) (by simp) s hs]
    have h0 : ¬ 0 < (List.replicate bs.length 0).getD s 0 := by rw [List.getD_eq_getElem?_getD, List.getElem?_replicate]; split <;> simp
    constructor
    · rintro (h | ⟨j, _, h2, h3, h4⟩)
      · exact absurd h h0
      · obtain ⟨t, ht, htl⟩ := hG.r j xs[j] (List.getElem?_eq_getElem h2)
        have hget : xs.getD j 0 = t := by rw [List.getD_eq_getElem?_getD, List.getElem?_eq_getElem h2, ht]; rfl
        rw [hget, Int.toNat_natCast] at h4
        obtain ⟨w, w1, w2, w3⟩ := (row_pos hG m t htl).1 h4
        have hdm := Nat.div_add_mod j k
        have e : s * k + j % k = j := by rw [← h3, Nat.mul_comm]; exact hdm
        refine ⟨(j % k) :: w, fun d hd => ?_, by simp [w2], ?_⟩
        · rcases List.mem_cons.1 hd with rfl | hd
          · exact Nat.mod_lt _ (by omega)
          · exact w1 d hd
        · show bs.getD (go k xs (tgt k xs s (j % k)) w) false = true
          unfold tgt
          rw [e, hget, Int.toNat_natCast]
          exact w3
    · rintro ⟨w, w1, w2, w3⟩
      cases w with
      | nil => cases w2
      | cons c w =>
        obtain ⟨h1, h2, h3⟩ := tgt_lt hG hs (w1 c List.mem_cons_self)
        have hck := w1 c List.mem_cons_self
        refine .inr ⟨s * k + c, by omega, h1, by rw [Nat.mul_comm, Nat.mul_add_div (by omega), Nat.div_eq_of_lt hck, Nat.add_zero], ?_⟩
        exact (row_pos hG m _ h2).2 ⟨w, fun d hd => w1 d (List.mem_cons_of_mem _ hd), by simpa using w2, w3⟩

/-- A long way goes round. -/
theorem round {k : Nat} {xs : List Int} {bs : List Bool} (hG : Good k xs bs) {w : List Nat} (hw : Wk k w) : ∃ i j, i < j ∧ j ≤ bs.length ∧ go k xs 0 (w.take i) = go k xs 0 (w.take j) := by
  have hb1 := hG.n1
  exact pigeon bs.length (fun i => go k xs 0 (w.take i)) (fun i _ => go_lt hG _ _ (fun c hc => hw c (List.mem_of_mem_take hc)) (by omega))
theorem wk_app {k : Nat} {u v : List Nat} (hu : Wk k u) (hv : Wk k v) : Wk k (u ++ v) := fun c hc => by
  rcases List.mem_append.1 hc with h | h
  · exact hu c h
  · exact hv c h
theorem shorten {k : Nat} {xs : List Int} {bs : List Bool} (hG : Good k xs bs) : ∀ (L : Nat) (w : List Nat), w.length ≤ L → bs.length ≤ w.length → Wk k w → bs.getD (go k xs 0 w) false = true →
    ∃ w', Wk k w' ∧ bs.length ≤ w'.length ∧ w'.length < 2 * bs.length ∧ bs.getD (go k xs 0 w') false = true
  | 0, w, hL, hn, hw, ha => by have := hG.n1; omega
  | L + 1, w, hL, hn, hw, ha => by
    by_cases h2 : w.length < 2 * bs.length
    · exact ⟨w, hw, hn, h2, ha⟩
    · obtain ⟨i, j, h3, h4, h5⟩ := round hG hw
      refine shorten hG L (w.take i ++ w.drop j) (by simp; omega) (by simp; omega) (wk_app (fun c hc => hw c (List.mem_of_mem_take hc)) (fun c hc => hw c (List.mem_of_mem_drop hc))) ?_
      rw [go_app, h5, ← go_app, List.take_append_drop]
      exact ha
theorem hope_at {k : Nat} {xs : List Int} {bs : List Bool} {s : Nat} (hs : s < bs.length) : (hopeL k xs bs).getD s false = true ↔ Hope k xs bs s := by
  rw [List.getD_eq_getElem?_getD, List.getElem?_eq_getElem (by rw [hopeL_len]; exact hs), Option.getD_some, hopeL_get]
  exact ⟨fun h => @of_decide_eq_true _ (Classical.propDecidable _) h, fun h => @decide_eq_true _ (Classical.propDecidable _) h⟩
theorem okB_iff {k : Nat} {xs : List Int} {bs : List Bool} (hG : Good k xs bs) {s : Nat} (hs : s < bs.length) : okB k xs bs.length (useL k xs bs) s = true ↔ (∃ u, Wk k u ∧ go k xs 0 u = s) ∧ Hope k xs bs s ∧ ∃ v, Wk k v ∧ go k xs s v = s ∧ v ≠ [] := by
  have hb1 := hG.n1
  unfold okB
  rw [useL_at hs, Bool.and_eq_true, Bool.and_eq_true, bfs_met hG (by omega) true, hope_at hs, bfs_met hG hs false]
  constructor
  · rintro ⟨⟨⟨u, u1, u2, _⟩, h2⟩, v, v1, v2, v3⟩
    exact ⟨⟨u, u1, u2⟩, h2, v, v1, v2, v3 rfl⟩
  · rintro ⟨⟨u, u1, u2⟩, h2, v, v1, v2, v3⟩
    exact ⟨⟨⟨u, u1, u2, fun h => by cases h⟩, h2⟩, v, v1, v2, fun _ => v3⟩
def pw (v : List Nat) : Nat → List Nat
  | 0 => []
  | n + 1 => v ++ pw v n
theorem pw_go {k : Nat} {xs : List Int} {s : Nat} {v : List Nat} (h : go k xs s v = s) : ∀ n, go k xs s (pw v n) = s
  | 0 => rfl
  | n + 1 => by rw [pw, go_app, h, pw_go h n]
theorem pw_wk {k : Nat} {v : List Nat} (h : Wk k v) : ∀ n, Wk k (pw v n)
  | 0 => fun c hc => by cases hc
  | n + 1 => wk_app h (pw_wk h n)
theorem pw_len {v : List Nat} (h : v ≠ []) : ∀ n, n ≤ (pw v n).length
  | 0 => Nat.zero_le _
  | n + 1 => by
    have := pw_len h n
    have h1 : 0 < v.length := List.length_pos_iff.2 h
    rw [pw, List.length_append]
    omega
/-- Not finite just where there is a word that is long, and not too long. -/
theorem finite_iff {k : Nat} {xs : List Int} {bs : List Bool} (hG : Good k xs bs) : (boundV k xs bs).1 = true ↔ ∀ m, bs.length ≤ m → m < 2 * bs.length → (rowC k xs bs m).getD 0 0 = 0 := by
  have hb1 := hG.n1
  have hbv : (boundV k xs bs).1 = true ↔ bestV k xs bs = none := by
    unfold boundV
    cases bestV k xs bs with
    | none => simp
    | some b => simp
  rw [hbv]
  constructor
  · intro h m h1 h2
    refine Nat.eq_zero_of_not_pos fun hp => ?_
    obtain ⟨w, w1, w2, w3⟩ := (row_pos hG m 0 (by omega)).1 hp
    obtain ⟨i, j, h3, h4, h5⟩ := round hG w1
    have hl : go k xs 0 (w.take i) < bs.length := go_lt hG _ _ (fun c hc => w1 c (List.mem_of_mem_take hc)) (by omega)
    obtain ⟨_, hn⟩ := pick_none _ _ _ h
    have := hn _ (Nat.zero_le _) (by omega : go k xs 0 (w.take i) < 0 + bs.length)
    rw [(okB_iff hG hl).2 ⟨⟨_, fun c hc => w1 c (List.mem_of_mem_take hc), rfl⟩, ⟨w.drop j, fun c hc => w1 c (List.mem_of_mem_drop hc), ?_⟩, (w.take j).drop i, fun c hc => w1 c (List.mem_of_mem_take (List.mem_of_mem_drop hc)), ?_, ?_⟩] at this
    · cases this
    · rw [h5, ← go_app, List.take_append_drop]; exact w3
    · have e : (w.take j).take i = w.take i := by rw [List.take_take, Nat.min_eq_left (by omega)]
      rw [← go_app, ← e, List.take_append_drop]
      exact h5.symm.trans (by rw [e])
    · intro h6
      have := congrArg List.length h6
      simp at this
      omega
  · intro h
    cases hb : bestV k xs bs with
    | none => rfl
    | some b =>
      obtain ⟨hbl, hok, _⟩ := best_end hG hb
      obtain ⟨⟨u, u1, u2⟩, ⟨z, z1, z2⟩, v, v1, v2, v3⟩ := (okB_iff hG hbl).1 hok
      obtain ⟨w', w1, w2, w3, w4⟩ := shorten hG _ (u ++ (pw v bs.length ++ z)) (Nat.le_refl _) (by have := pw_len v3 bs.length; simp only [List.length_append]; omega) (wk_app u1 (wk_app (pw_wk v1 _) z1)) (by rw [go_app, u2, go_app, pw_go v2]; exact z2)
      have := (row_pos hG w'.length 0 (by omega)).2 ⟨w', w1, rfl, w4⟩
      rw [h _ w2 w3] at this
      omega

def fnd (k : Nat) (xs : List Int) (bs : List Bool) : Nat → Nat → Bool
  | 0, _ => false
  | d + 1, i => decide (0 < (rowC k xs bs i).getD 0 0) || fnd k xs bs d (i + 1)
theorem fnd_iff {k : Nat} {xs : List Int} {bs : List Bool} : ∀ (d i : Nat), fnd k xs bs d i = true ↔ ∃ m, i ≤ m ∧ m < i + d ∧ 0 < (rowC k xs bs m).getD 0 0
  | 0, i => ⟨fun h => (by cases h), fun ⟨m, h1, h2, _⟩ => (by omega)⟩
  | d + 1, i => by
    rw [fnd, Bool.or_eq_true, decide_eq_true_eq, fnd_iff d (i + 1)]
    constructor
    · rintro (h | ⟨m, h1, h2, h3⟩)
      · exact ⟨i, Nat.le_refl _, by omega, h⟩
      · exact ⟨m, by omega, by omega, h3⟩
    · rintro ⟨m, h1, h2, h3⟩
      by_cases he : m = i
      · subst he; exact .inl h3
      · exact .inr ⟨m, by omega, by omega, h3⟩

theorem loop3 {k : Nat} {xs : List Int} {bs : List Bool} (hG : Good k xs bs) (h0 : chkG k xs bs = 0) {H0 H : AHeap} {prot : Nat} {vN vA : Value} {b : Bool} {e : Int} (hbx : H[H0.length]? = some (bx k vN vA)) (hA : IsA H xs bs vN vA) : ∀ (d i : Nat) (f : Bool), i + d = 2 * bs.length →
    lpInf (lpOf cfg a3 0 prot H0) ([.pointer (some ⟨H0.length, 0, some 3⟩), .bool b, .int .i64 e, .int .i64 bs.length, .bool f, .int .i64 i], H) = some (.exit 0, [.bool b, .int .i64 e, .bool (f || fnd k xs bs d i)], H)
  | 0, i, f, hi => by
    have hn5 := hG.n5
    rw [fnd, Bool.or_false]
    exact lp_last (f3_L0_3 (fit64 (by omega) (by omega)) (by omega))
  | d + 1, i, f, hi => by
    have hn5 := hG.n5
    have f2 : Fit .i64 (2 * (bs.length : Int)) := fit64 (by omega) (by omega)
    cases f with
    | true => exact lp_last (f3_L0_0 f2 (by omega) rfl)
    | false =>
      have hx := c14 (k := (k : Int)) (n := (i : Int)) H0.length H hA
      have fi : Fit .i64 ((i : Int) + 1) := fit64 (by omega) (by omega)
      obtain ⟨aN, cN, rfl⟩ := hA.n.len
      obtain ⟨aA, cA, rfl⟩ := hA.a.len
      obtain ⟨_, _, _, g3⟩ := fld3 hbx
      by_cases hov : 18446744073709551616 ≤ (rowC k xs bs i).getD 0 0
      · have hcv : countV k xs bs i = (0, 11) := by unfold countV; rw [if_pos h0, if_neg (by omega), if_neg (by omega), Int.toNat_natCast, Int.toNat_natCast, if_pos hov]
        rw [hcv] at hx
        have ih := loop3 hG h0 (prot := prot) (b := b) (e := e) hbx hA d (i + 1) true (by omega)
        rw [fnd, decide_eq_true (by omega)]
        exact lp_next (f3_L0_1 f2 (by omega) rfl g3 hx f15_F_0 rfl fi) ih
      · have hcv : countV k xs bs i = ((rowC k xs bs i).getD 0 0, 0) := by unfold countV; rw [if_pos h0, if_neg (by omega), if_neg (by omega), Int.toNat_natCast, Int.toNat_natCast, if_neg hov]
        rw [hcv] at hx
        have ih := loop3 hG h0 (prot := prot) (b := b) (e := e) hbx hA d (i + 1) (decide (0 < (rowC k xs bs i).getD 0 0)) (by omega)
        rw [fnd, Bool.false_or]
        have hd : decide ((((rowC k xs bs i).getD 0 0 : Nat) : Int) > 0) = decide (0 < (rowC k xs bs i).getD 0 0) := by rw [decide_eq_decide]; omega
        have st := f3_L0_2 (prot := prot) (x3 := b) (x5 := e) (x6 := (bs.length : Int)) (x7 := false) (x8 := (i : Int)) f2 (by omega) rfl g3 hx f15_F_0 rfl fi
        rw [hd] at st
        exact lp_next st ih

theorem law3 {k : Int} {xs : List Int} {bs : List Bool} {vN vA : Value} (prot : Nat) (H : AHeap) (hA : IsA H xs bs vN vA) :
    callInf cfg 3 [av k vN vA] prot H = some (.bool true, H) := by
  have hck := c11 (k := k) H.length (H ++ [bx k vN vA]) (hA.stay (Stay.app none H _))
  have hA2 := hA.stay (Stay.app none H [bx k vN vA])
  have h13 := c13 (k := k) H.length (H ++ [bx k vN vA]) hA2
  have hg : (H ++ [bx k vN vA])[H.length]? = some (bx k vN vA) := append_get.1
  by_cases h0 : chkG k xs bs = 0
  · rw [decide_eq_true h0] at hck
    obtain ⟨k, rfl, hG⟩ := good_of h0
    have hn1 := hG.n1
    have hn5 := hG.n5
    have hv : finV k xs bs = ((boundV k xs bs).1, (boundV k xs bs).2, 0) := by unfold finV; rw [if_pos h0, Int.toNat_natCast]
    rw [hv] at h13
    obtain ⟨B0, hB0⟩ : ∃ B0, B0 = AObj.cells [.string ByteArray.empty, .string ByteArray.empty, .string ByteArray.empty] 29 3 .var := ⟨_, rfl⟩
    have hg2 : (H ++ [bx k vN vA] ++ [B0])[(H ++ [bx k vN vA]).length]? = some B0 := append_get.1
    rw [hB0] at hg2
    obtain ⟨H1, u1, u2, u3, _⟩ := set3s hg2 (show H.length ≤ (H ++ [bx k vN vA]).length by simp) (x := .string (boundV k xs bs).2.1) (y := .string (boundV k xs bs).2.2.1) (z := .string (boundV k xs bs).2.2.2) rfl
    have s1 : Stay none H H1 := ((Stay.app none H [bx k vN vA]).trans (Stay.app none _ _)).over u3 (fun id h => by have := Option.some.inj h; simp at this; omega)
    have hg1 : H1[H.length]? = some (bx k vN vA) := by
      rw [u3.2 _ (by simp) (fun h => by have := Option.some.inj h; simp at this), List.getElem?_append_left (by simp)]; exact hg
    have hl := loop3 hG h0 (prot := prot) (b := (boundV k xs bs).1) (e := 0) hg1 (hA.stay s1) bs.length bs.length false (by omega)
    have key : (!((boundV k xs bs).1 == (false || fnd k xs bs bs.length bs.length))) = true := by
      rw [Bool.false_or]
      have h1 := finite_iff hG
      have h2 := fnd_iff (k := k) (xs := xs) (bs := bs) bs.length bs.length
      cases hb : (boundV k xs bs).1 with
      | true =>
        cases hf : fnd k xs bs bs.length bs.length with
        | false => rfl
        | true =>
          obtain ⟨m, m1, m2, m3⟩ := h2.1 hf
          have := h1.1 hb m m1 (by omega)
          omega
      | false =>
        cases hf : fnd k xs bs bs.length bs.length with
        | true => rfl
        | false =>
          have : (boundV k xs bs).1 = true := h1.2 (fun m m1 m2 => Nat.eq_zero_of_not_pos fun hp => by
            have := h2.2 ⟨m, m1, by omega, hp⟩
            rw [hf] at this; cases this)
          rw [hb] at this; cases this
    obtain ⟨aN, cN, rfl⟩ := hA.n.len
    obtain ⟨aA, cA, rfl⟩ := hA.a.len
    obtain ⟨g0, g1, g2, g3⟩ := fld3 hg
    obtain ⟨_, _, k2, _⟩ := fld3 hg1
    subst hB0
    rw [f3_F_0 all3 g3 hck rfl (cKnows _ _) rfl g3 h13 rfl u1 k2 hl f15_F_0 rfl, key]
  · rw [decide_eq_false h0] at hck
    obtain ⟨aN, cN, rfl⟩ := hA.n.len
    obtain ⟨aA, cA, rfl⟩ := hA.a.len
    obtain ⟨g0, g1, g2, g3⟩ := fld3 hg
    exact f3_F_3 all3 g3 hck rfl (cKnows _ _)
end Go.Proofs.Ythjkodbinkiifaa.Am23
