/- A part of the proof of a given statement: S11d_Srt, AmApart, P11d_13, S11d_X, P11d_23, P11d_29, S11d_Tu, S11d_Tv, P11d_6, S11d_Pa, S11d_Pb, P11d_21, P11d_10, P11d_32, S11d_I, P11d_16, S11d_Tw, P11d_28, S11d_Fr, P11d_8. No condition. -/
import Derived.Test.YtkemihfaohkoeaaDoorPart12
namespace Go.Proofs.YtkemihfaohkoeaaDoor.Am11d
open Go Go.Proofs.YtkemihfaohkoeaaDoor.Am
/-! A list that rises is sorted: it stays. -/
def Ris (l : List Nat) : Prop := ∀ i j, i ≤ j → j < l.length → l.getD i 0 ≤ l.getD j 0
theorem nl_at {l : List Nat} {i : Nat} (h : i < l.length) : (il (nl l))[i]? = some (.int .i64 ((l.getD i 0 : Nat) : Int)) := by
  unfold il nl
  rw [List.getElem?_map, List.getElem?_map, List.getElem?_eq_getElem h, List.getD_eq_getElem?_getD, List.getElem?_eq_getElem h]; rfl
theorem c57 (x y : Nat) (prot : Nat) (H : AHeap) : callInf cfg 56 [.int .i64 x, .int .i64 y] prot H = some (.bool (decide ((x : Int) < (y : Int))), H) := by
  exact f56_F_2 (x6 := ((x : Int) != (x : Int))) f66_F_0 (by simp)
theorem c57_no {x y : Nat} (h : y ≤ x) (prot : Nat) (H : AHeap) : callInf cfg 56 [.int .i64 x, .int .i64 y] prot H = some (.bool false, H) := by
  rw [c57, decide_eq_false (by omega)]
theorem rd_prev {H : AHeap} {x : Value} {L : List Nat} (hx : Rd H 3 1 x L.length (il (nl L))) {i : Nat} (hi : i < L.length) (hp : 0 < i) :
    ∃ id M, aindexAddr cfg.P 24 x (.int .i64 ((i : Int) - 1)) = some (.pointer (some ⟨id, i - 1, some M⟩)) ∧ getCells H id M (i - 1) 1 = some [.int .i64 ((L.getD (i - 1) 0 : Nat) : Int)] := by
  obtain ⟨id, M, a, b⟩ := rd_at T34 hx (nl_at (show i - 1 < L.length by omega))
  exact ⟨id, M, by rw [show (i : Int) - 1 = ((i - 1 : Nat) : Int) by omega]; exact a, b⟩
theorem loop51 {L : List Nat} (hs : Ris L) (hn : L.length ≤ 100000000) {x : Value} {H0 H : AHeap} {prot : Nat} (hx : Rd H 3 1 x L.length (il (nl L))) : ∀ (d i : Nat), i + d = L.length → 0 < i →
    lpInf (lpOf cfg a50 0 prot H0) ([x, .int .i64 0, .int .i64 L.length, .int .i64 i], H) = some (.exit 0, [], H)
  | 0, i, hi, hp => by
    obtain ⟨_, _, rfl⟩ := hx.len
    exact lp_last (f50_L0_1 (by omega))
  | d + 1, i, hi, hp => by
    have hil : i < L.length := by omega
    obtain ⟨i1, M1, a1, a2⟩ := rd_at T34 hx (nl_at hil)
    obtain ⟨i2, M2, b1, b2⟩ := rd_prev hx hil hp
    have h57 := c57_no (hs (i - 1) i (by omega) hil) prot H
    have ih := loop51 hs hn hx (H0 := H0) (prot := prot) d (i + 1) (by omega) (by omega)
    obtain ⟨_, _, rfl⟩ := hx.len
    refine lp_next (f50_L0_0 (by omega) (lp_last (f50_L1_1 (by omega) a1 a2 (fit64 (by omega) (by omega)) b1 b2 h57 rfl)) (fit64 (by omega) (by omega))) ih
theorem c51 {L : List Nat} (hs : Ris L) (hn : L.length ≤ 100000000) {x : Value} (prot : Nat) {H : AHeap} (hx : Rd H 3 1 x L.length (il (nl L))) :
    callInf cfg 50 [x, .int .i64 0, .int .i64 L.length] prot H = some (.tuple #[], H) := by
  have key : lpInf (lpOf cfg a50 0 prot H) ([x, .int .i64 0, .int .i64 L.length, .int .i64 (0 + 1)], H) = some (.exit 0, [], H) := by
    by_cases h : 0 < L.length
    · exact loop51 hs hn hx (H0 := H) (prot := prot) (L.length - 1) 1 (by omega) (by omega)
    · obtain ⟨_, _, rfl⟩ := hx.len
      exact lp_last (f50_L0_1 (by omega))
  obtain ⟨_, _, rfl⟩ := hx.len
  exact f50_F_0 (fit64 (by omega) (by omega)) key

theorem loop56 {L : List Nat} (hs : Ris L) (hn : L.length ≤ 100000000) {x : Value} {H0 H : AHeap} {prot : Nat} {j : Int} (hx : Rd H 3 1 x L.length (il (nl L))) : ∀ (d i : Nat), i + d = L.length → 0 < i →
    lpInf (lpOf cfg a55 1 prot H0) ([x, .int .i64 0, .int .i64 L.length, .int .i64 i, .int .i64 j], H) = some (.exit 2, [x, .int .i64 0, .int .i64 L.length, .int .i64 L.length, .int .i64 j], H)
  | 0, i, hi, hp => by
    have he : i = L.length := by omega
    subst he
    obtain ⟨_, _, rfl⟩ := hx.len
    exact lp_last (f55_L1_2 (by omega))
  | d + 1, i, hi, hp => by
    have hil : i < L.length := by omega
    obtain ⟨i1, M1, a1, a2⟩ := rd_at T34 hx (nl_at hil)
    obtain ⟨i2, M2, b1, b2⟩ := rd_prev hx hil hp
    have h57 := c57_no (hs (i - 1) i (by omega) hil) prot H
    have ih := loop56 hs hn hx (H0 := H0) (prot := prot) (j := j) d (i + 1) (by omega) (by omega)
    obtain ⟨_, _, rfl⟩ := hx.len
    exact lp_next (f55_L1_1 (by omega) a1 a2 (fit64 (by omega) (by omega)) b1 b2 h57 rfl (fit64 (by omega) (by omega))) ih
theorem c56 {L : List Nat} (hs : Ris L) (hn : L.length ≤ 100000000) (h0 : 0 < L.length) {x : Value} (prot : Nat) {H : AHeap} (hx : Rd H 3 1 x L.length (il (nl L))) :
    callInf cfg 55 [x, .int .i64 0, .int .i64 L.length] prot H = some (.bool true, H) := by
  have key := loop56 hs hn hx (H0 := H) (prot := prot) (j := 0) (L.length - 1) 1 (by omega) (by omega)
  obtain ⟨_, _, rfl⟩ := hx.len
  exact f55_F_1 (fit64 (by omega) (by omega)) (lp_last (f55_L0_0 (by omega) key (by simp)))

theorem c68 {L : List Nat} (hs : Ris L) {x : Value} (prot : Nat) {H : AHeap} (hx : Rd H 3 1 x L.length (il (nl L))) {a b p q r : Nat} (hab : a ≤ b) (hb : b < L.length) :
    callInf cfg 67 [x, .int .i64 a, .int .i64 b, .pointer (some ⟨p, q, some r⟩)] prot H = some (.tuple #[.int .i64 a, .int .i64 b], H) := by
  obtain ⟨i1, M1, a1, a2⟩ := rd_at T34 hx (nl_at hb)
  obtain ⟨i2, M2, b1, b2⟩ := rd_at T34 hx (nl_at (show a < L.length by omega))
  have h57 := c57_no (hs a b hab hb) H.length H
  obtain ⟨_, _, rfl⟩ := hx.len
  exact f67_F_1 a1 a2 b1 b2 h57 rfl
theorem c66 {L : List Nat} (hs : Ris L) {x : Value} (prot : Nat) {H : AHeap} (hx : Rd H 3 1 x L.length (il (nl L))) {a b c p q r : Nat} (hab : a ≤ b) (hbc : b ≤ c) (hc : c < L.length) :
    callInf cfg 65 [x, .int .i64 a, .int .i64 b, .int .i64 c, .pointer (some ⟨p, q, some r⟩)] prot H = some (.int .i64 b, H) := by
  have h1 := c68 hs H.length hx (p := p) (q := q) (r := r) hab (show b < L.length by omega)
  have h2 := c68 hs H.length hx (p := p) (q := q) (r := r) hbc hc
  obtain ⟨_, _, rfl⟩ := hx.len
  exact f65_F_0 h1 h2 h1
theorem c65 {L : List Nat} (hs : Ris L) (hn : L.length ≤ 100000000) {x : Value} (prot : Nat) {H : AHeap} (hx : Rd H 3 1 x L.length (il (nl L))) {i p q r : Nat} (h0 : 0 < i) (hi : i + 1 < L.length) {z : Int} (hz : z = i) :
    callInf cfg 64 [x, .int .i64 z, .pointer (some ⟨p, q, some r⟩)] prot H = some (.int .i64 i, H) := by
  subst hz
  have h1 := c66 hs H.length hx (p := p) (q := q) (r := r) (a := i - 1) (b := i) (c := i + 1) (by omega) (by omega) hi
  rw [show ((i - 1 : Nat) : Int) = (i : Int) - 1 by omega, show ((i + 1 : Nat) : Int) = (i : Int) + 1 by omega] at h1
  obtain ⟨_, _, rfl⟩ := hx.len
  exact f64_F_0 (fit64 (by omega) (by omega)) (fit64 (by omega) (by omega)) h1
theorem c54 {L : List Nat} (hs : Ris L) (hn : L.length ≤ 100000000) (h0 : 13 ≤ L.length) {x : Value} (prot : Nat) {H : AHeap} (hx : Rd H 3 1 x L.length (il (nl L))) :
    ∃ b : Int, callInf cfg 53 [x, .int .i64 0, .int .i64 L.length] prot H = some (.tuple #[.int .i64 b, .int .i64 1], H) := by
  have ed : ((L.length : Int) - 0).tdiv 4 = ((L.length / 4 : Nat) : Int) := by rw [Int.sub_zero, show (4 : Int) = ((4 : Nat) : Int) from rfl, Int.ofNat_tdiv]
  obtain ⟨q, hq⟩ : ∃ q, q = L.length / 4 := ⟨_, rfl⟩
  rw [← hq] at ed
  obtain ⟨HA, hHA⟩ : ∃ HA, HA = H ++ [vo [.int .i64 0] 3] := ⟨_, rfl⟩
  have sA : Stay none H HA := by rw [hHA]; exact Stay.app none H _
  have hxA := hx.stay sA
  have hg : getCells HA H.length [Value.int .i64 0].length 0 1 = some [.int .i64 0] := by
    rw [hHA]
    unfold getCells
    rw [append_get.1]
    rfl
  have e1 : (0 : Int) + ((L.length : Int) - 0).tdiv 4 * 1 = (q : Int) := by rw [ed]; omega
  have e2 : (0 : Int) + ((L.length : Int) - 0).tdiv 4 * 2 = ((q * 2 : Nat) : Int) := by rw [ed]; omega
  have e3 : (0 : Int) + ((L.length : Int) - 0).tdiv 4 * 3 = ((q * 3 : Nat) : Int) := by rw [ed]; omega
  have f0 : Fit .i64 ((L.length : Int) - 0) := fit64 (by omega) (by omega)
  have f1 : Fit .i64 (((L.length : Int) - 0).tdiv 4) := by rw [ed]; exact fit64 (by omega) (by omega)
  have f2 : Fit .i64 (((L.length : Int) - 0).tdiv 4 * 1) := by rw [ed]; exact fit64 (by omega) (by omega)
  have f3 : Fit .i64 (0 + ((L.length : Int) - 0).tdiv 4 * 1) := by rw [ed]; exact fit64 (by omega) (by omega)
  have f4 : Fit .i64 (((L.length : Int) - 0).tdiv 4 * 2) := by rw [ed]; exact fit64 (by omega) (by omega)
  have f5 : Fit .i64 (0 + ((L.length : Int) - 0).tdiv 4 * 2) := by rw [ed]; exact fit64 (by omega) (by omega)
  have f6 : Fit .i64 (((L.length : Int) - 0).tdiv 4 * 3) := by rw [ed]; exact fit64 (by omega) (by omega)
  have f7 : Fit .i64 (0 + ((L.length : Int) - 0).tdiv 4 * 3) := by rw [ed]; exact fit64 (by omega) (by omega)
  have h66 := c66 hs H.length hxA (p := H.length) (q := 0) (r := [Value.int .i64 0].length) (a := q) (b := q * 2) (c := q * 3) (by omega) (by omega) (by omega)
  by_cases h50 : 50 ≤ L.length
  · have g1 := c65 hs hn H.length hxA (p := H.length) (q := 0) (r := [Value.int .i64 0].length) (i := q) (by omega) (by omega) e1
    have g2 := c65 hs hn H.length hxA (p := H.length) (q := 0) (r := [Value.int .i64 0].length) (i := q * 2) (by omega) (by omega) e2
    have g3 := c65 hs hn H.length hxA (p := H.length) (q := 0) (r := [Value.int .i64 0].length) (i := q * 3) (by omega) (by omega) e3
    subst hHA
    obtain ⟨_, _, rfl⟩ := hx.len
    exact ⟨_, f53_F_0 f0 f1 f2 f3 f4 f5 f6 f7 (by omega) (by omega) g1 g2 g3 h66 hg rfl⟩
  · rw [← e1, ← e2, ← e3] at h66
    subst hHA
    obtain ⟨_, _, rfl⟩ := hx.len
    exact ⟨_, f53_F_3 f0 f1 f2 f3 f4 f5 f6 f7 (by omega) (by omega) h66 hg rfl⟩

theorem t8_pos : ∀ i : Fin 256, 1 ≤ i.val → 0 < (T8.get! i.val).toNat := by decide +kernel
theorem t8_size : T8.size = 256 := by kernel_rfl
theorem u8_small {n : Nat} (h : n < 256) : IntKind.u8.wrap (n : Int) = (n : Int) := by
  simp only [IntKind.wrap]
  show (if (false && decide ((n : Int) % (256 : Int) ≥ (128 : Int))) = true then (n : Int) % (256 : Int) - 256 else (n : Int) % (256 : Int)) = _
  rw [if_neg (by simp)]
  omega
theorem c61 {n : Nat} (hn : n ≤ 10000000) (prot : Nat) (H : AHeap) : ∃ r : Int, callInf cfg 60 [.int .u64 n] prot H = some (.int .i64 r, H) ∧ (13 ≤ n → r ≠ 0) := by
  have fb : ∀ (b : UInt8) (c : Int), 0 ≤ c → c ≤ 1000 → Fit .i64 (c + (b.toNat : Int)) := fun b c h1 h2 => fit64 (by omega) (by have := b.toNat_lt; omega)
  have fb0 : ∀ (b : UInt8), Fit .i64 (b.toNat : Int) := fun b => fit64 (by omega) (by have := b.toNat_lt; omega)
  have d16 : (n : Int).fdiv (2 ^ min (Int.toNat 16) IntKind.u64.bits) = ((n / 65536 : Nat) : Int) := by
    show (n : Int).fdiv 65536 = _
    rw [Int.fdiv_eq_ediv_of_nonneg _ (by omega)]
    omega
  have d8 : (n : Int).fdiv (2 ^ min (Int.toNat 8) IntKind.u64.bits) = ((n / 256 : Nat) : Int) := by
    show (n : Int).fdiv 256 = _
    rw [Int.fdiv_eq_ediv_of_nonneg _ (by omega)]
    omega
  by_cases h1 : 65536 ≤ n
  · refine ⟨_, f60_F_5 (x0 := (n : Int)) (H := H) (prot := prot) (by omega) (by omega) (by omega) (fit64 (by omega) (by omega)) (by rw [d16]; omega) (by rw [d16, u8_small (by omega)]; omega) (by rw [d16, u8_small (by omega), t8_size]; omega) (fb0 _) (fb _ _ (by omega) (by omega)), fun _ => by omega⟩
  · by_cases h2 : 256 ≤ n
    · refine ⟨_, f60_F_6 (x0 := (n : Int)) (H := H) (prot := prot) (by omega) (by omega) (by omega) (by omega) (fit64 (by omega) (by omega)) (by rw [d8, u8_small (by omega)]; omega) (by rw [d8, u8_small (by omega), t8_size]; omega) (fb0 _) (fb _ _ (by omega) (by omega)), fun _ => by omega⟩
    · refine ⟨_, f60_F_7 (x0 := (n : Int)) (H := H) (prot := prot) (by omega) (by omega) (by omega) (by rw [u8_small (by omega)]; omega) (by rw [u8_small (by omega), t8_size]; omega) (fb0 _) (fb _ _ (by omega) (by omega)), fun h3 => ?_⟩
      rw [u8_small (by omega), Int.toNat_natCast]
      have := t8_pos ⟨n, by omega⟩ (by show 1 ≤ n; omega)
      simp only at this
      omega
theorem c45 {L : List Nat} (hs : Ris L) (hn : L.length ≤ 10000000) {x : Value} (prot : Nat) {H : AHeap} (hx : Rd H 3 1 x L.length (il (nl L))) :
    callInf cfg 37 [x] prot H = some (.tuple #[], H) := by
  obtain ⟨r, h61, hr⟩ := c61 hn H.length H
  have h49 : callInf cfg 46 [.int .u64 (IntKind.u64.wrap (L.length : Int))] prot H = some (.int .i64 r, H) := by
    rw [show IntKind.u64.wrap (L.length : Int) = (L.length : Int) by
      simp only [IntKind.wrap]
      show (if (false && decide ((L.length : Int) % (18446744073709551616 : Int) ≥ (9223372036854775808 : Int))) = true then (L.length : Int) % (18446744073709551616 : Int) - 18446744073709551616 else (L.length : Int) % (18446744073709551616 : Int)) = _
      rw [if_neg (by simp)]
      omega]
    exact f46_F_0 h61
  have h48 : callInf cfg 45 [x, .int .i64 0, .int .i64 L.length, .int .i64 r] prot H = some (.tuple #[], H) := by
    by_cases h : L.length ≤ 12
    · have h51 := c51 hs (by omega) prot hx
      obtain ⟨_, _, rfl⟩ := hx.len
      exact f45_F_0 (lp_last (f45_L0_0 (fit64 (by omega) (by omega)) (by omega) h51))
    · obtain ⟨b, h54⟩ := c54 hs (by omega) (by omega) prot hx
      have h56 := c56 hs (by omega) (by omega) prot hx
      have hr0 : (r == 0) = false := by rw [beq_eq_false_iff_ne]; exact hr (by omega)
      obtain ⟨_, _, rfl⟩ := hx.len
      exact f45_F_0 (lp_last (f45_L0_18 (fit64 (by omega) (by omega)) (by omega) hr0 rfl h54 rfl rfl rfl rfl h56 rfl))
  obtain ⟨_, _, rfl⟩ := hx.len
  exact f37_F_0 h49 h48
end Go.Proofs.YtkemihfaohkoeaaDoor.Am11d
namespace Go.Proofs.YtkemihfaohkoeaaDoor.Am
open Go
/-! Lists that are their maker's own: marked, and grown in turn. -/
theorem Rd.stayE {H H' : AHeap} {e s : Nat} {x : Value} {n : Nat} {cs : List Value} (h : Rd H e s x n cs) {p e' wr : Nat} {l : List Value} {md : OMode} (hp : H[p]? = some (.cells l e' wr md)) (hne : e' ≠ e) (k : Stay (some p) H H') : Rd H' e s x n cs := by
  refine ⟨h.1, ?_⟩
  rcases h.2 with h2 | ⟨id, L, wr2, md2, c, all, h2, h3, h4, h5, h6, h7⟩
  · exact .inl h2
  · refine .inr ⟨id, L, wr2, md2, c, all, h2, h3, h4, h5, ?_, h7⟩
    rw [k.2 id (List.getElem?_eq_some_iff.1 h6).1 (fun e1 => ?_)]
    · exact h6
    · have := Option.some.inj e1
      subst this
      rw [hp] at h6
      cases h6
      exact hne rfl
theorem Own.stayE {H H' : AHeap} {e s : Nat} {x : Value} {o : Option Nat} {n : Nat} {cs : List Value} (h : Own H e s x o n cs) {p e' wr : Nat} {l : List Value} {md : OMode} (hp : H[p]? = some (.cells l e' wr md)) (hne : e' ≠ e) (k : Stay (some p) H H') : Own H' e s x o n cs := by
  refine h.stay k (fun id e1 e2 => ?_)
  have := Option.some.inj e2
  subst this
  subst e1
  obtain ⟨_, _, _, wr2, _, h2⟩ := h
  rw [hp] at h2
  cases h2
  exact hne rfl

/-- A row of one's own. -/
def RX (H : AHeap) (e : Nat) (r : Value) (n : Nat) (o : Option Nat) (vs : List Value) : Prop :=
  match o with
  | none => n = 0 ∧ vs = [] ∧ (r = .slice none 0 0 ∨ r = emptySlice)
  | some id => vs.length = n ∧ r = .slice (some ⟨id, 0, some n⟩) n n ∧ ∃ wr, wr ≤ n ∧ H[id]? = some (.cells vs e wr .row)
theorem Own.rx {H : AHeap} {e : Nat} {x : Value} {o : Option Nat} {n : Nat} {cs : List Value} (h : Own H e 1 x o n cs) : RX H e x n o cs := by
  have h1 := h.1
  have h2 := h.2
  cases o with
  | none => exact ⟨h2.1, List.eq_nil_of_length_eq_zero (by rw [h1, h2.1]), h2.2⟩
  | some id =>
    obtain ⟨a, b, wr, c, d⟩ := h2
    rw [Nat.mul_one] at h1
    rw [h1] at b c
    exact ⟨h1, b, wr, c, d⟩
theorem OwnE.rx {H : AHeap} {e n b : Nat} {x : Value} {cs : List Value} (h : OwnE H e x n cs b) : ∃ o, RX H e x n o cs ∧ ∀ id, o = some id → b ≤ id := by
  rcases h with ⟨o, h, h2⟩ | ⟨rfl, rfl, id, rfl, h1, h⟩
  · exact ⟨o, h.rx, h2⟩
  · exact ⟨some id, ⟨rfl, rfl, 0, Nat.le_refl _, h⟩, fun i e => by cases e; exact h1⟩
theorem RX.stay {H H' : AHeap} {e : Nat} {r : Value} {n : Nat} {o o' : Option Nat} {vs : List Value} (h : RX H e r n o vs) (k : Stay o' H H') (hne : ∀ id, o = some id → o' ≠ some id) : RX H' e r n o vs := by
  cases o with
  | none => exact h
  | some id =>
    obtain ⟨a, b, wr, c, d⟩ := h
    exact ⟨a, b, wr, c, by rw [k.2 id (List.getElem?_eq_some_iff.1 d).1 (hne id rfl)]; exact d⟩
theorem RX.stayE {H H' : AHeap} {e : Nat} {r : Value} {n : Nat} {o : Option Nat} {vs : List Value} (h : RX H e r n o vs) {p e' wr : Nat} {l : List Value} {md : OMode} (hp : H[p]? = some (.cells l e' wr md)) (hne : e' ≠ e) (k : Stay (some p) H H') : RX H' e r n o vs := by
  refine h.stay k (fun id e1 e2 => ?_)
  have := Option.some.inj e2
  subst this
  subst e1
  obtain ⟨_, _, wr2, _, h2⟩ := h
  rw [hp] at h2
  cases h2
  exact hne rfl
theorem RX.lt {H : AHeap} {e : Nat} {r : Value} {n id : Nat} {vs : List Value} (h : RX H e r n (some id) vs) : id < H.length := by
  obtain ⟨_, _, _, _, h2⟩ := h
  exact (List.getElem?_eq_some_iff.1 h2).1
theorem RX.len {H : AHeap} {e : Nat} {r : Value} {n : Nat} {o : Option Nat} {vs : List Value} (h : RX H e r n o vs) : ∃ a c, r = .slice a n c := by
  cases o with
  | none =>
    obtain ⟨rfl, _, rfl | rfl⟩ := h
    · exact ⟨_, _, rfl⟩
    · exact ⟨_, _, rfl⟩
  | some id => exact ⟨_, _, h.2.1⟩
theorem put_one (L : List Value) {i : Nat} (hi : i < L.length) (v : Value) : putList L i [v] = L.set i v := by
  unfold putList
  rw [List.set_eq_take_append_cons_drop, if_pos hi]
  simp
/-- A mark. -/
theorem RX.set {P : Program} {t e by_ : Nat} (T : ElemT P t e 1 by_) {H : AHeap} {r : Value} {n : Nat} {o : Option Nat} {vs : List Value} (h : RX H e r n o vs) {k : Nat} (hk : k < n) {v : Value} (hv : isCell v = true) {prot : Nat} (hp : ∀ id, o = some id → prot ≤ id) :
    ∃ id H', o = some id ∧ aindexAddr P t r (.int .i64 (k : Nat)) = some (.pointer (some ⟨id, k, some n⟩)) ∧ setCells H prot id n k [v] = some H' ∧ RX H' e r n o (vs.set k v) ∧ Stay (some id) H H' ∧ ∃ l wr, H[id]? = some (.cells l e wr .row) := by
  cases o with
  | none => obtain ⟨rfl, _⟩ := h; omega
  | some id =>
    obtain ⟨a, b, wr, c, d⟩ := h
    have hi : aindexAddr P t r (.int .i64 (k : Nat)) = some (.pointer (some ⟨id, k, some n⟩)) := by
      rw [b]
      unfold aindexAddr
      rw [T.un]
      simp only [T.sz, Option.bind_some]
      rw [if_pos (by omega)]
      simp
    refine ⟨id, H.set id (.cells (vs.set k v) e n .row), rfl, hi, ?_, ⟨by rw [List.length_set]; exact a, b, n, Nat.le_refl _, List.getElem?_set_self (List.getElem?_eq_some_iff.1 d).1⟩, set_stay, _, _, d⟩
    unfold setCells
    rw [d]
    simp only
    rw [if_pos ⟨rfl, hp id rfl, a.symm, by simp; omega, by simp [hv]⟩, put_one vs (by omega)]
/-- One more at the end: what was written stays. -/
theorem app_wr {P : Program} {t e by_ : Nat} (T : ElemT P t e 1 by_) {H : AHeap} {id n wr : Nat} {vs : List Value} (hH : H[id]? = some (.cells vs e wr .row)) (hl : vs.length = n) {v : Value} (hv : isCell v = true) {prot : Nat} (hp : prot ≤ id) {room : Bool} (hroom : (n + 1) * by_ ≤ 140737488355328) {L : Nat} (hL : L = 1) {el : Nat} (hel : el = 1) :
    aappend P prot room t t (.slice (some ⟨id, 0, some n⟩) n n) (.slice (some ⟨H.length, 0, some L⟩) 1 1) (H ++ [.cells [v] e el .row]) = some (.slice (some ⟨id, 0, some (n + 1)⟩) (n + 1) (n + 1), (H ++ [AObj.cells [v] e el .row]).set id (AObj.cells (vs ++ [v]) e wr .row)) := by
  subst hL; subst hel
  obtain ⟨z, hz, hzl⟩ := T.ze
  have hlt := (List.getElem?_eq_some_iff.1 hH).1
  have hH' : (H ++ [AObj.cells [v] e 1 .row])[id]? = some (.cells vs e wr .row) := by rw [List.getElem?_append_left hlt]; exact hH
  have hsrc : srcCells P 1 t (.slice (some ⟨H.length, 0, some 1⟩) 1 1) (H ++ [AObj.cells [v] e 1 .row]) = some (1, [v]) := by
    unfold srcCells
    rw [T.un]
    simp only [cellsAt]
    unfold getCells
    rw [append_get.1]
    simp
  unfold aappend
  rw [T.sl, Option.bind_some, T.sz, Option.bind_some, T.bt, Option.bind_some, hz, Option.bind_some, if_pos ⟨rfl, by omega, T.b0, hzl⟩, hsrc, Option.bind_some]
  dsimp only
  rw [if_pos ⟨rfl, by simp [hv]⟩]
  simp only [Nat.one_ne_zero, if_false]
  rw [if_neg (by omega), hH']
  simp only [OMode.isRow, true_and]
  rw [if_pos ⟨hp, hl.symm, by omega, hroom⟩]
  simp

/-- A row and what it has grown to. -/
structure GK (H : AHeap) (e : Nat) (r g : Value) (n k : Nat) (o o' : Option Nat) (vs ws : List Value) : Prop where
  rl : ∃ a c, r = .slice a n c
  vl : vs.length = n
  wl : ws.length = k
  old : ∀ a, o = some a → o' = some a
  z : o = none → n = 0
  gl : (o' = none ∧ k = 0 ∧ (g = .slice none 0 0 ∨ g = emptySlice)) ∨ ∃ id wr, o' = some id ∧ g = .slice (some ⟨id, 0, some (n + k)⟩) (n + k) (n + k) ∧ wr ≤ n + k ∧ H[id]? = some (.cells (vs ++ ws) e wr .row) ∧ (0 < n → wr ≤ n ∧ r = .slice (some ⟨id, 0, some n⟩) n n)
theorem RX.gk {H : AHeap} {e : Nat} {r : Value} {n : Nat} {o : Option Nat} {vs : List Value} (h : RX H e r n o vs) : GK H e r r n 0 o o vs [] := by
  refine ⟨h.len, ?_, rfl, fun _ h => h, fun ho => ?_, ?_⟩
  · cases o with
    | none => obtain ⟨rfl, rfl, _⟩ := h; rfl
    | some id => exact h.1
  · subst ho; exact h.1
  · cases o with
    | none => exact .inl ⟨rfl, rfl, h.2.2⟩
    | some id =>
      obtain ⟨a, b, wr, c, d⟩ := h
      exact .inr ⟨id, wr, rfl, b, c, by rw [List.append_nil]; exact d, fun _ => ⟨c, b⟩⟩
theorem GK.stay {H H' : AHeap} {e : Nat} {r g : Value} {n k : Nat} {o o' p : Option Nat} {vs ws : List Value} (h : GK H e r g n k o o' vs ws) (s : Stay p H H') (hne : ∀ id, o' = some id → p ≠ some id) : GK H' e r g n k o o' vs ws := by
  refine ⟨h.rl, h.vl, h.wl, h.old, h.z, ?_⟩
  rcases h.gl with h | ⟨id, wr, a, b, c, d, f⟩
  · exact .inl h
  · exact .inr ⟨id, wr, a, b, c, by rw [s.2 id (List.getElem?_eq_some_iff.1 d).1 (hne id a)]; exact d, f⟩
theorem GK.stayE {H H' : AHeap} {e : Nat} {r g : Value} {n k : Nat} {o o' : Option Nat} {vs ws : List Value} (h : GK H e r g n k o o' vs ws) {p e' wr : Nat} {l : List Value} {md : OMode} (hp : H[p]? = some (.cells l e' wr md)) (hne : e' ≠ e) (s : Stay (some p) H H') : GK H' e r g n k o o' vs ws := by
  refine h.stay s (fun id e1 e2 => ?_)
  have := Option.some.inj e2
  subst this
  rcases h.gl with ⟨h1, _⟩ | ⟨id2, wr2, a, b, c, d, f⟩
  · rw [h1] at e1; cases e1
  · rw [e1] at a
    cases a
    rw [hp] at d
    cases d
    exact hne rfl
/-- It grows. -/
theorem GK.app {P : Program} {t e by_ : Nat} (T : ElemT P t e 1 by_) {H : AHeap} {r g : Value} {n k : Nat} {o o' : Option Nat} {vs ws : List Value} (h : GK H e r g n k o o' vs ws) {v : Value} (hv : isCell v = true) {prot : Nat} (hp : ∀ id, o' = some id → prot ≤ id) (hB : prot ≤ H.length) (hroom : (n + k + 1) * by_ ≤ 140737488355328) {L : Nat} (hL : L = 1) {el : Nat} (hel : el = 1) :
    ∃ id H', aappend P prot true t t g (.slice (some ⟨H.length, 0, some L⟩) 1 1) (H ++ [.cells [v] e el .row]) = some (.slice (some ⟨id, 0, some (n + (k + 1))⟩) (n + (k + 1)) (n + (k + 1)), H') ∧ GK H' e r (.slice (some ⟨id, 0, some (n + (k + 1))⟩) (n + (k + 1)) (n + (k + 1))) n (k + 1) o (some id) vs (ws ++ [v]) ∧ Stay o' H H' ∧ (∀ i, o' = some i → id = i) ∧ (o' = none → H.length ≤ id) := by
  rcases h.gl with ⟨rfl, rfl, hg⟩ | ⟨id, wr, rfl, rfl, c, d, f⟩
  · have ho : o = none := by
      cases ho : o with
      | none => rfl
      | some a => have := h.old a ho; cases this
    have hn := h.z ho
    have hvs : vs = [] := List.eq_nil_of_length_eq_zero (by rw [h.vl, hn])
    have hws : ws = [] := List.eq_nil_of_length_eq_zero h.wl
    subst hvs; subst hws; subst hn
    have h0 : Own H e 1 g none 0 [] := ⟨rfl, rfl, hg⟩
    obtain ⟨a', c', id, H', q1, q2, q3, q4, q5, q6⟩ := own_app T h0 (ecs := [v]) rfl (by simp [hv]) (prot := prot) (room := true) (fun id h => by cases h) hB (by omega) hL (el := el) hel
    obtain ⟨_, _, q7, wr, q8, q9⟩ := q2
    have e1 : ([] ++ [v] : List Value).length = 1 := rfl
    rw [e1] at q7 q8
    rw [Nat.zero_add] at q7
    rw [q7] at q1
    refine ⟨id, H', q1, ⟨h.rl, rfl, rfl, fun a ha => (by rw [ho] at ha; cases ha), h.z, .inr ⟨id, wr, rfl, rfl, q8, q9, fun hh => (by omega)⟩⟩, q3, fun i e => (by cases e), fun _ => q5 rfl⟩
  · have hl : (vs ++ ws).length = n + k := by rw [List.length_append, h.vl, h.wl]
    have ha := app_wr T d hl hv (hp id rfl) (room := true) hroom hL hel
    have hlt := (List.getElem?_eq_some_iff.1 d).1
    refine ⟨id, _, ha, ⟨h.rl, h.vl, by rw [List.length_append, h.wl]; rfl, h.old, h.z, .inr ⟨id, wr, rfl, rfl, by omega, ?_, f⟩⟩, (Stay.app (some id) H _).trans set_stay, fun i e => (by cases e; rfl), fun e => (by cases e)⟩
    rw [List.getElem?_set_self (by simp; omega), List.append_assoc]
theorem GK.rd {H : AHeap} {e : Nat} {r g : Value} {n k : Nat} {o o' : Option Nat} {vs ws : List Value} (h : GK H e r g n k o o' vs ws) : Rd H e 1 g (n + k) (vs ++ ws) ∧ (0 < n → Rd H e 1 r n vs) := by
  have hl : (vs ++ ws).length = n + k := by rw [List.length_append, h.vl, h.wl]
  rcases h.gl with ⟨h1, rfl, hg⟩ | ⟨id, wr, h1, rfl, c, d, f⟩
  · have hn : n = 0 := by
      cases ho : o with
      | none => exact h.z ho
      | some a => have := h.old a ho; rw [h1] at this; cases this
    have hvs : vs = [] := List.eq_nil_of_length_eq_zero (by rw [h.vl, hn])
    have hws : ws = [] := List.eq_nil_of_length_eq_zero h.wl
    subst hn; subst hvs; subst hws
    exact ⟨⟨rfl, .inl ⟨rfl, hg⟩⟩, fun hh => by omega⟩
  · refine ⟨⟨by rw [hl]; omega, .inr ⟨id, n + k, wr, .row, _, vs ++ ws, rfl, c, by omega, by omega, d, by rw [List.take_of_length_le (by omega)]⟩⟩, fun hn => ?_⟩
    obtain ⟨f1, f2⟩ := f hn
    have := h.vl
    exact ⟨by omega, .inr ⟨id, n, wr, .row, _, vs ++ ws, f2, f1, by omega, by omega, d, by rw [List.take_append_of_le_length (by omega), List.take_of_length_le (by omega)]⟩⟩
theorem GK.lt {H : AHeap} {e : Nat} {r g : Value} {n k : Nat} {o : Option Nat} {id : Nat} {vs ws : List Value} (h : GK H e r g n k o (some id) vs ws) : id < H.length := by
  rcases h.gl with ⟨h1, _⟩ | ⟨id2, wr, a, b, c, d, f⟩
  · cases h1
  · cases a
    exact (List.getElem?_eq_some_iff.1 d).1
theorem GK.glen {H : AHeap} {e : Nat} {r g : Value} {n k : Nat} {o o' : Option Nat} {vs ws : List Value} (h : GK H e r g n k o o' vs ws) : ∃ a c, g = .slice a (n + k) c := by
  have h0 := h.rd.1.len
  exact h0
end Go.Proofs.YtkemihfaohkoeaaDoor.Am
set_option linter.unusedVariables false
open Go Go.Proofs.YtkemihfaohkoeaaDoor.Am
namespace Go.Proofs.YtkemihfaohkoeaaDoor.Am11d
theorem f13_F_0 {x0a : Option Addr} {x0n x0c : Nat} {H : AHeap} {prot : Nat} {z0a : Option Addr} {z0n z0c : Nat} {z3a : Option Addr} {z3n z3c : Nat} {H1 : AHeap} {z0a_2 : Option Addr} {z0n_2 z0c_2 : Nat} {z3a_2 : Option Addr} {z3n_2 z3c_2 : Nat} {H2 : AHeap} {z2 : Value} {H3 : AHeap} (h1 : lpInf (lpOf cfg a13 0 prot H) ([Value.slice x0a x0n x0c, Value.slice none 0 0, Value.int .i64 0], H) = some (Ex.exit 0, [Value.slice z0a z0n z0c, Value.slice z3a z3n z3c], H1)) (h2 : lpInf (lpOf cfg a13 2 prot H) ([Value.slice z0a z0n z0c, Value.slice z3a z3n z3c, Value.int .i64 0], H1) = some (Ex.exit 4, [Value.slice z0a_2 z0n_2 z0c_2, Value.slice z3a_2 z3n_2 z3c_2], H2)) (h3 : lpInf (lpOf cfg a13 4 prot H) ([Value.slice z0a_2 z0n_2 z0c_2, Value.slice z3a_2 z3n_2 z3c_2, Value.int .i64 0], H2) = some (Ex.exit 8, [z2], H3)) : callInf cfg 13 [.slice x0a x0n x0c] prot H = some (Value.bool true, H3) :=
  fn_of2 a13 [.lo (.exit 0, [.slice z0a z0n z0c, .slice z3a z3n z3c], H1), .lo (.exit 4, [.slice z0a_2 z0n_2 z0c_2, .slice z3a_2 z3n_2 z3c_2], H2), .lo (.exit 8, [z2], H3)] (ai h1 (ai h2 (ai h3 (Eq.refl ((Value.bool true, H3) : Value × AHeap))))) (by kernel_rfl) rfl
theorem f13_L0_0 {x0a : Option Addr} {x0n x0c : Nat} {x3a : Option Addr} {x3n x3c : Nat} {x4 : Int} {H0 : AHeap} {prot : Nat} {H : AHeap} {z0a : Option Addr} {z0n z0c : Nat} {z3a : Option Addr} {z3n z3c : Nat} {z4 : Int} {H2 : AHeap} (h1 : x4 < (↑x0n : Int)) (h2 : lpInf (lpOf cfg a13 1 prot H0) ([Value.slice x0a x0n x0c, Value.slice x3a x3n x3c, Value.int .i64 x4, Value.int .i64 0], H) = some (Ex.exit 2, [Value.slice z0a z0n z0c, Value.slice z3a z3n z3c, Value.int .i64 z4], H2)) (h3 : Fit .i64 (z4 + 1)) : lpOf cfg a13 0 prot H0 ([.slice x0a x0n x0c, .slice x3a x3n x3c, .int .i64 x4], H) = some (Sum.inl ([Value.slice z0a z0n z0c, Value.slice z3a z3n z3c, Value.int .i64 (z4 + 1)], H2)) :=
  lp_of2 [.e, .e, .b true, .lo (.exit 2, [.slice z0a z0n z0c, .slice z3a z3n z3c, .int .i64 z4], H2), .e] (ai (decide_eq_true h1) (ai h2 (ai h3 (Eq.refl (Sum.inl ([Value.slice z0a z0n z0c, Value.slice z3a z3n z3c, Value.int .i64 (z4 + 1)], H2) : LS ⊕ LO))))) (by kernel_rfl)
theorem f13_L0_1 {x0a : Option Addr} {x0n x0c : Nat} {x3a : Option Addr} {x3n x3c : Nat} {x4 : Int} {H0 : AHeap} {prot : Nat} {H : AHeap} (h1 : ¬(x4 < (↑x0n : Int))) : lpOf cfg a13 0 prot H0 ([.slice x0a x0n x0c, .slice x3a x3n x3c, .int .i64 x4], H) = some (Sum.inr (Ex.exit 0, [Value.slice x0a x0n x0c, Value.slice x3a x3n x3c], H)) :=
  lp_of2 [.e, .e, .b false] (ai (decide_eq_false h1) (Eq.refl (Sum.inr (Ex.exit 0, [Value.slice x0a x0n x0c, Value.slice x3a x3n x3c], H) : LS ⊕ LO))) (by kernel_rfl)
theorem f13_L1_0 {x0a : Option Addr} {x0n x0c : Nat} {x3a : Option Addr} {x3n x3c : Nat} {x4 x5 : Int} {H0 : AHeap} {prot : Nat} {H : AHeap} {x20p x20o x20l : Nat} {x21a : Option Addr} {x21n x21c x28p x28o x28l : Nat} {x29a : Option Addr} {x29n x29c x33p x33o x33l : Nat} {H2 : AHeap} (h1 : aindexAddr cfg.P 22 (Value.slice x0a x0n x0c) (Value.int .i64 x4) = some (Value.pointer (some ⟨x20p, x20o, some x20l⟩))) (h2 : getCells H x20p x20l x20o 1 = some [Value.slice x21a x21n x21c]) (h3 : x5 < (↑x21n : Int)) (h4 : aindexAddr cfg.P 22 (Value.slice x0a x0n x0c) (Value.int .i64 x4) = some (Value.pointer (some ⟨x28p, x28o, some x28l⟩))) (h5 : getCells H x28p x28l x28o 1 = some [Value.slice x29a x29n x29c]) (h6 : Fit .i64 (1000 + x4)) (h7 : aindexAddr cfg.P 24 (Value.slice x29a x29n x29c) (Value.int .i64 x5) = some (Value.pointer (some ⟨x33p, x33o, some x33l⟩))) (h8 : [Value.int .i64 (1000 + x4)].length = 1) (h9 : setCells H prot x33p x33l x33o [Value.int .i64 (1000 + x4)] = some H2) (h10 : Fit .i64 (x5 + 1)) : lpOf cfg a13 1 prot H0 ([.slice x0a x0n x0c, .slice x3a x3n x3c, .int .i64 x4, .int .i64 x5], H) = some (Sum.inl ([Value.slice x0a x0n x0c, Value.slice x3a x3n x3c, Value.int .i64 x4, Value.int .i64 (x5 + 1)], H2)) :=
  lp_of2 [.v (.pointer (some ⟨x20p, x20o, some x20l⟩)), .v (.slice x21a x21n x21c), .e, .e, .b true, .v (.pointer (some ⟨x28p, x28o, some x28l⟩)), .v (.slice x29a x29n x29c), .e, .v (.pointer (some ⟨x33p, x33o, some x33l⟩)), .h H2, .e] (ai h1 (ai h2 (ai (decide_eq_true h3) (ai h4 (ai h5 (ai h6 (ai h7 (ai h8 (ai h9 (ai h10 (Eq.refl (Sum.inl ([Value.slice x0a x0n x0c, Value.slice x3a x3n x3c, Value.int .i64 x4, Value.int .i64 (x5 + 1)], H2) : LS ⊕ LO)))))))))))) (by kernel_rfl)
theorem f13_L1_1 {x0a : Option Addr} {x0n x0c : Nat} {x3a : Option Addr} {x3n x3c : Nat} {x4 x5 : Int} {H0 : AHeap} {prot : Nat} {H : AHeap} {x20p x20o x20l : Nat} {x21a : Option Addr} {x21n x21c : Nat} (h1 : aindexAddr cfg.P 22 (Value.slice x0a x0n x0c) (Value.int .i64 x4) = some (Value.pointer (some ⟨x20p, x20o, some x20l⟩))) (h2 : getCells H x20p x20l x20o 1 = some [Value.slice x21a x21n x21c]) (h3 : ¬(x5 < (↑x21n : Int))) : lpOf cfg a13 1 prot H0 ([.slice x0a x0n x0c, .slice x3a x3n x3c, .int .i64 x4, .int .i64 x5], H) = some (Sum.inr (Ex.exit 2, [Value.slice x0a x0n x0c, Value.slice x3a x3n x3c, Value.int .i64 x4], H)) :=
  lp_of2 [.v (.pointer (some ⟨x20p, x20o, some x20l⟩)), .v (.slice x21a x21n x21c), .e, .e, .b false] (ai h1 (ai h2 (ai (decide_eq_false h3) (Eq.refl (Sum.inr (Ex.exit 2, [Value.slice x0a x0n x0c, Value.slice x3a x3n x3c, Value.int .i64 x4], H) : LS ⊕ LO))))) (by kernel_rfl)
theorem f13_L2_0 {x0a : Option Addr} {x0n x0c : Nat} {x3a : Option Addr} {x3n x3c : Nat} {x6 : Int} {H0 : AHeap} {prot : Nat} {H : AHeap} {x42p x42o x42l : Nat} {x43a : Option Addr} {x43n x43c : Nat} {z0a : Option Addr} {z0n z0c : Nat} {z3a : Option Addr} {z3n z3c : Nat} {z6 : Int} {z7a : Option Addr} {z7n z7c : Nat} {H2 : AHeap} {x56a : Option Addr} {x56n x56c : Nat} {H3 : AHeap} (h1 : x6 < (↑x0n : Int)) (h2 : aindexAddr cfg.P 22 (Value.slice x0a x0n x0c) (Value.int .i64 x6) = some (Value.pointer (some ⟨x42p, x42o, some x42l⟩))) (h3 : getCells H x42p x42l x42o 1 = some [Value.slice x43a x43n x43c]) (h4 : lpInf (lpOf cfg a13 3 prot H0) ([Value.slice x0a x0n x0c, Value.slice x3a x3n x3c, Value.int .i64 x6, Value.slice x43a x43n x43c, Value.int .i64 0], H) = some (Ex.exit 6, [Value.slice z0a z0n z0c, Value.slice z3a z3n z3c, Value.int .i64 z6, Value.slice z7a z7n z7c], H2)) (h5 : aappend cfg.P prot true 22 22 (Value.slice z3a z3n z3c) (Value.slice (some ⟨List.length H2, 0, some (1 * 1)⟩) 1 1) (H2 ++ [wo [Value.slice z7a z7n z7c] 24]) = some (Value.slice x56a x56n x56c, H3)) (h6 : Fit .i64 (z6 + 1)) : lpOf cfg a13 2 prot H0 ([.slice x0a x0n x0c, .slice x3a x3n x3c, .int .i64 x6], H) = some (Sum.inl ([Value.slice z0a z0n z0c, Value.slice x56a x56n x56c, Value.int .i64 (z6 + 1)], H3)) :=
  lp_of2 [.e, .e, .b true, .v (.pointer (some ⟨x42p, x42o, some x42l⟩)), .v (.slice x43a x43n x43c), .lo (.exit 6, [.slice z0a z0n z0c, .slice z3a z3n z3c, .int .i64 z6, .slice z7a z7n z7c], H2), .e, .r (.slice x56a x56n x56c) H3, .e] (ai (decide_eq_true h1) (ai h2 (ai h3 (ai h4 (ai h5 (ai h6 (Eq.refl (Sum.inl ([Value.slice z0a z0n z0c, Value.slice x56a x56n x56c, Value.int .i64 (z6 + 1)], H3) : LS ⊕ LO)))))))) (by kernel_rfl)
theorem f13_L2_1 {x0a : Option Addr} {x0n x0c : Nat} {x3a : Option Addr} {x3n x3c : Nat} {x6 : Int} {H0 : AHeap} {prot : Nat} {H : AHeap} (h1 : ¬(x6 < (↑x0n : Int))) : lpOf cfg a13 2 prot H0 ([.slice x0a x0n x0c, .slice x3a x3n x3c, .int .i64 x6], H) = some (Sum.inr (Ex.exit 4, [Value.slice x0a x0n x0c, Value.slice x3a x3n x3c], H)) :=
  lp_of2 [.e, .e, .b false] (ai (decide_eq_false h1) (Eq.refl (Sum.inr (Ex.exit 4, [Value.slice x0a x0n x0c, Value.slice x3a x3n x3c], H) : LS ⊕ LO))) (by kernel_rfl)
theorem f13_L3_0 {x0a : Option Addr} {x0n x0c : Nat} {x3a : Option Addr} {x3n x3c : Nat} {x6 : Int} {x7a : Option Addr} {x7n x7c : Nat} {x8 : Int} {H0 : AHeap} {prot : Nat} {H : AHeap} {x52a : Option Addr} {x52n x52c : Nat} {H2 : AHeap} (h1 : x8 < 40) (h2 : Fit .i64 (2000 + x6)) (h3 : aappend cfg.P prot true 24 24 (Value.slice x7a x7n x7c) (Value.slice (some ⟨List.length H, 0, some (1 * 1)⟩) 1 1) (H ++ [wo [Value.int .i64 (2000 + x6)] 3]) = some (Value.slice x52a x52n x52c, H2)) (h4 : Fit .i64 (x8 + 1)) : lpOf cfg a13 3 prot H0 ([.slice x0a x0n x0c, .slice x3a x3n x3c, .int .i64 x6, .slice x7a x7n x7c, .int .i64 x8], H) = some (Sum.inl ([Value.slice x0a x0n x0c, Value.slice x3a x3n x3c, Value.int .i64 x6, Value.slice x52a x52n x52c, Value.int .i64 (x8 + 1)], H2)) :=
  lp_of2 [.e, .b true, .e, .e, .r (.slice x52a x52n x52c) H2, .e] (ai (decide_eq_true h1) (ai h2 (ai h3 (ai h4 (Eq.refl (Sum.inl ([Value.slice x0a x0n x0c, Value.slice x3a x3n x3c, Value.int .i64 x6, Value.slice x52a x52n x52c, Value.int .i64 (x8 + 1)], H2) : LS ⊕ LO)))))) (by kernel_rfl)
theorem f13_L3_1 {x0a : Option Addr} {x0n x0c : Nat} {x3a : Option Addr} {x3n x3c : Nat} {x6 : Int} {x7a : Option Addr} {x7n x7c : Nat} {x8 : Int} {H0 : AHeap} {prot : Nat} {H : AHeap} (h1 : ¬(x8 < 40)) : lpOf cfg a13 3 prot H0 ([.slice x0a x0n x0c, .slice x3a x3n x3c, .int .i64 x6, .slice x7a x7n x7c, .int .i64 x8], H) = some (Sum.inr (Ex.exit 6, [Value.slice x0a x0n x0c, Value.slice x3a x3n x3c, Value.int .i64 x6, Value.slice x7a x7n x7c], H)) :=
  lp_of2 [.e, .b false] (ai (decide_eq_false h1) (Eq.refl (Sum.inr (Ex.exit 6, [Value.slice x0a x0n x0c, Value.slice x3a x3n x3c, Value.int .i64 x6, Value.slice x7a x7n x7c], H) : LS ⊕ LO))) (by kernel_rfl)
theorem f13_L4_0 {x0a : Option Addr} {x0n x0c : Nat} {x3a : Option Addr} {x3n x3c : Nat} {x9 : Int} {H0 : AHeap} {prot : Nat} {H : AHeap} {z0a : Option Addr} {z0n z0c : Nat} {z2 : Value} {z3a : Option Addr} {z3n z3c : Nat} {z9 : Int} {H2 : AHeap} (h1 : x9 < (↑x0n : Int)) (h2 : lpInf (lpOf cfg a13 5 prot H0) ([Value.slice x0a x0n x0c, Value.slice x3a x3n x3c, Value.int .i64 x9, Value.int .i64 0], H) = some (Ex.exit 10, [Value.slice z0a z0n z0c, z2, Value.slice z3a z3n z3c, Value.int .i64 z9], H2)) (h3 : Fit .i64 (z9 + 1)) : lpOf cfg a13 4 prot H0 ([.slice x0a x0n x0c, .slice x3a x3n x3c, .int .i64 x9], H) = some (Sum.inl ([Value.slice z0a z0n z0c, Value.slice z3a z3n z3c, Value.int .i64 (z9 + 1)], H2)) :=
  lp_of2 [.e, .e, .b true, .lo (.exit 10, [.slice z0a z0n z0c, z2, .slice z3a z3n z3c, .int .i64 z9], H2), .e] (ai (decide_eq_true h1) (ai h2 (ai h3 (Eq.refl (Sum.inl ([Value.slice z0a z0n z0c, Value.slice z3a z3n z3c, Value.int .i64 (z9 + 1)], H2) : LS ⊕ LO))))) (by kernel_rfl)
theorem f13_L4_2 {x0a : Option Addr} {x0n x0c : Nat} {x3a : Option Addr} {x3n x3c : Nat} {x9 : Int} {H0 : AHeap} {prot : Nat} {H : AHeap} (h1 : ¬(x9 < (↑x0n : Int))) : lpOf cfg a13 4 prot H0 ([.slice x0a x0n x0c, .slice x3a x3n x3c, .int .i64 x9], H) = some (Sum.inr (Ex.exit 8, [Value.tuple { toList := [] }], H)) :=
  lp_of2 [.e, .e, .b false] (ai (decide_eq_false h1) (Eq.refl (Sum.inr (Ex.exit 8, [Value.tuple { toList := [] }], H) : LS ⊕ LO))) (by kernel_rfl)
theorem f13_L5_4 {x0a : Option Addr} {x0n x0c : Nat} {x3a : Option Addr} {x3n x3c : Nat} {x9 x10 : Int} {H0 : AHeap} {prot : Nat} {H : AHeap} {x66p x66o x66l : Nat} {x67a : Option Addr} {x67n x67c x75p x75o x75l : Nat} {x76a : Option Addr} {x76n x76c x82p x82o x82l : Nat} {x83a : Option Addr} {x83n x83c x85p x85o x85l : Nat} {x86 : Int} {x93p x93o x93l : Nat} {x94a : Option Addr} {x94n x94c x96p x96o x96l : Nat} {x97 : Int} {x107p x107o x107l : Nat} {x108a : Option Addr} {x108n x108c : Nat} (h1 : aindexAddr cfg.P 22 (Value.slice x3a x3n x3c) (Value.int .i64 x9) = some (Value.pointer (some ⟨x66p, x66o, some x66l⟩))) (h2 : getCells H x66p x66l x66o 1 = some [Value.slice x67a x67n x67c]) (h3 : x10 < (↑x67n : Int)) (h4 : aindexAddr cfg.P 22 (Value.slice x0a x0n x0c) (Value.int .i64 x9) = some (Value.pointer (some ⟨x75p, x75o, some x75l⟩))) (h5 : getCells H x75p x75l x75o 1 = some [Value.slice x76a x76n x76c]) (h6 : x10 < (↑x76n : Int)) (h7 : aindexAddr cfg.P 22 (Value.slice x0a x0n x0c) (Value.int .i64 x9) = some (Value.pointer (some ⟨x82p, x82o, some x82l⟩))) (h8 : getCells H x82p x82l x82o 1 = some [Value.slice x83a x83n x83c]) (h9 : aindexAddr cfg.P 24 (Value.slice x83a x83n x83c) (Value.int .i64 x10) = some (Value.pointer (some ⟨x85p, x85o, some x85l⟩))) (h10 : getCells H x85p x85l x85o 1 = some [Value.int .i64 x86]) (h11 : Fit .i64 (1000 + x9)) (h12 : (x86 != 1000 + x9) = false) (h13 : aindexAddr cfg.P 22 (Value.slice x3a x3n x3c) (Value.int .i64 x9) = some (Value.pointer (some ⟨x93p, x93o, some x93l⟩))) (h14 : getCells H x93p x93l x93o 1 = some [Value.slice x94a x94n x94c]) (h15 : aindexAddr cfg.P 24 (Value.slice x94a x94n x94c) (Value.int .i64 x10) = some (Value.pointer (some ⟨x96p, x96o, some x96l⟩))) (h16 : getCells H x96p x96l x96o 1 = some [Value.int .i64 x97]) (h17 : (x97 != 1000 + x9) = false) (h18 : aindexAddr cfg.P 22 (Value.slice x0a x0n x0c) (Value.int .i64 x9) = some (Value.pointer (some ⟨x107p, x107o, some x107l⟩))) (h19 : getCells H x107p x107l x107o 1 = some [Value.slice x108a x108n x108c]) (h20 : ¬(x10 ≥ (↑x108n : Int))) (h21 : Fit .i64 (x10 + 1)) : lpOf cfg a13 5 prot H0 ([.slice x0a x0n x0c, .slice x3a x3n x3c, .int .i64 x9, .int .i64 x10], H) = some (Sum.inl ([Value.slice x0a x0n x0c, Value.slice x3a x3n x3c, Value.int .i64 x9, Value.int .i64 (x10 + 1)], H)) :=
  lp_of2 [.v (.pointer (some ⟨x66p, x66o, some x66l⟩)), .v (.slice x67a x67n x67c), .e, .e, .b true, .v (.pointer (some ⟨x75p, x75o, some x75l⟩)), .v (.slice x76a x76n x76c), .e, .e, .b true, .b true, .b true, .v (.pointer (some ⟨x82p, x82o, some x82l⟩)), .b true, .v (.slice x83a x83n x83c), .b true, .b true, .v (.pointer (some ⟨x85p, x85o, some x85l⟩)), .b true, .v (.int .i64 x86), .b true, .b true, .e, .b true, .e, .b true, .b false, .b false, .b false, .v (.pointer (some ⟨x93p, x93o, some x93l⟩)), .b false, .v (.slice x94a x94n x94c), .b false, .b false, .v (.pointer (some ⟨x96p, x96o, some x96l⟩)), .b false, .v (.int .i64 x97), .b false, .b false, .e, .b false, .e, .b true, .b false, .b true, .b false, .b false, .b false, .b false, .v (.pointer (some ⟨x107p, x107o, some x107l⟩)), .b false, .v (.slice x108a x108n x108c), .b false, .e, .b false, .e, .b false, .b false, .b false, .b false, .b false, .b false, .b false, .b false, .b false, .b false, .b false, .b false, .b false, .b false, .b false, .e] (ai h1 (ai h2 (ai (decide_eq_true h3) (ai h4 (ai h5 (ai (decide_eq_true h6) (ai (decide_eq_true h6) (ai (decide_eq_true h6) (ai h7 (ai (decide_eq_true h6) (ai h8 (ai (decide_eq_true h6) (ai (decide_eq_true h6) (ai h9 (ai (decide_eq_true h6) (ai h10 (ai (decide_eq_true h6) (ai (decide_eq_true h6) (ai h11 (ai (decide_eq_true h6) (ai (decide_eq_true h6) (ai h12 (ai h12 (ai h12 (ai h13 (ai h12 (ai h14 (ai h12 (ai h12 (ai h15 (ai h12 (ai h16 (ai h12 (ai h12 (ai h11 (ai h12 (ai (decide_eq_true h6) (ai h12 (ai (decide_eq_true h6) (ai h17 (ai h17 (ai h17 (ai h17 (ai h18 (ai h17 (ai h19 (ai h17 (ai h17 (ai h17 (ai (decide_eq_false h20) (ai (decide_eq_false h20) (ai (decide_eq_false h20) (ai (decide_eq_false h20) (ai (decide_eq_false h20) (ai (decide_eq_false h20) (ai (decide_eq_false h20) (ai (decide_eq_false h20) (ai (decide_eq_false h20) (ai (decide_eq_false h20) (ai h17 (ai (decide_eq_false h20) (ai h17 (ai (Eq.refl false) (ai h21 (Eq.refl (Sum.inl ([Value.slice x0a x0n x0c, Value.slice x3a x3n x3c, Value.int .i64 x9, Value.int .i64 (x10 + 1)], H) : LS ⊕ LO)))))))))))))))))))))))))))))))))))))))))))))))))))))))))))))))))) (by kernel_rfl)
theorem f13_L5_6 {x0a : Option Addr} {x0n x0c : Nat} {x3a : Option Addr} {x3n x3c : Nat} {x9 x10 : Int} {H0 : AHeap} {prot : Nat} {H : AHeap} {x66p x66o x66l : Nat} {x67a : Option Addr} {x67n x67c x75p x75o x75l : Nat} {x76a : Option Addr} {x76n x76c x107p x107o x107l : Nat} {x108a : Option Addr} {x108n x108c x114p x114o x114l : Nat} {x115a : Option Addr} {x115n x115c x117p x117o x117l : Nat} {x118 : Int} (h1 : aindexAddr cfg.P 22 (Value.slice x3a x3n x3c) (Value.int .i64 x9) = some (Value.pointer (some ⟨x66p, x66o, some x66l⟩))) (h2 : getCells H x66p x66l x66o 1 = some [Value.slice x67a x67n x67c]) (h3 : x10 < (↑x67n : Int)) (h4 : aindexAddr cfg.P 22 (Value.slice x0a x0n x0c) (Value.int .i64 x9) = some (Value.pointer (some ⟨x75p, x75o, some x75l⟩))) (h5 : getCells H x75p x75l x75o 1 = some [Value.slice x76a x76n x76c]) (h6 : ¬(x10 < (↑x76n : Int))) (h7 : aindexAddr cfg.P 22 (Value.slice x0a x0n x0c) (Value.int .i64 x9) = some (Value.pointer (some ⟨x107p, x107o, some x107l⟩))) (h8 : getCells H x107p x107l x107o 1 = some [Value.slice x108a x108n x108c]) (h9 : x10 ≥ (↑x108n : Int)) (h10 : aindexAddr cfg.P 22 (Value.slice x3a x3n x3c) (Value.int .i64 x9) = some (Value.pointer (some ⟨x114p, x114o, some x114l⟩))) (h11 : getCells H x114p x114l x114o 1 = some [Value.slice x115a x115n x115c]) (h12 : aindexAddr cfg.P 24 (Value.slice x115a x115n x115c) (Value.int .i64 x10) = some (Value.pointer (some ⟨x117p, x117o, some x117l⟩))) (h13 : getCells H x117p x117l x117o 1 = some [Value.int .i64 x118]) (h14 : Fit .i64 (2000 + x9)) (h15 : (x118 != 2000 + x9) = false) (h16 : Fit .i64 (x10 + 1)) : lpOf cfg a13 5 prot H0 ([.slice x0a x0n x0c, .slice x3a x3n x3c, .int .i64 x9, .int .i64 x10], H) = some (Sum.inl ([Value.slice x0a x0n x0c, Value.slice x3a x3n x3c, Value.int .i64 x9, Value.int .i64 (x10 + 1)], H)) :=
  lp_of2 [.v (.pointer (some ⟨x66p, x66o, some x66l⟩)), .v (.slice x67a x67n x67c), .e, .e, .b true, .v (.pointer (some ⟨x75p, x75o, some x75l⟩)), .v (.slice x76a x76n x76c), .e, .e, .b false, .b false, .b false, .b false, .b false, .b false, .b false, .b false, .b false, .b false, .b false, .b false, .b false, .b false, .b false, .b false, .b false, .v (.pointer (some ⟨x107p, x107o, some x107l⟩)), .b false, .v (.slice x108a x108n x108c), .b false, .e, .b false, .e, .b false, .b true, .b true, .b true, .v (.pointer (some ⟨x114p, x114o, some x114l⟩)), .b true, .v (.slice x115a x115n x115c), .b true, .b true, .v (.pointer (some ⟨x117p, x117o, some x117l⟩)), .b true, .v (.int .i64 x118), .b true, .b true, .e, .b true, .e, .b false, .b true, .b false, .b false, .e] (ai h1 (ai h2 (ai (decide_eq_true h3) (ai h4 (ai h5 (ai (decide_eq_false h6) (ai (decide_eq_false h6) (ai (decide_eq_false h6) (ai (decide_eq_false h6) (ai (decide_eq_false h6) (ai (decide_eq_false h6) (ai (decide_eq_false h6) (ai (decide_eq_false h6) (ai (decide_eq_false h6) (ai (decide_eq_false h6) (ai (decide_eq_false h6) (ai (decide_eq_false h6) (ai (decide_eq_false h6) (ai (Eq.refl false) (ai (Eq.refl false) (ai (Eq.refl false) (ai (Eq.refl false) (ai h7 (ai (Eq.refl false) (ai h8 (ai (Eq.refl false) (ai (Eq.refl false) (ai (Eq.refl false) (ai (decide_eq_true h9) (ai (decide_eq_true h9) (ai (decide_eq_true h9) (ai h10 (ai (decide_eq_true h9) (ai h11 (ai (decide_eq_true h9) (ai (decide_eq_true h9) (ai h12 (ai (decide_eq_true h9) (ai h13 (ai (decide_eq_true h9) (ai (decide_eq_true h9) (ai h14 (ai (decide_eq_true h9) (ai (Eq.refl false) (ai (decide_eq_true h9) (ai (Eq.refl false) (ai h15 (ai h16 (Eq.refl (Sum.inl ([Value.slice x0a x0n x0c, Value.slice x3a x3n x3c, Value.int .i64 x9, Value.int .i64 (x10 + 1)], H) : LS ⊕ LO)))))))))))))))))))))))))))))))))))))))))))))))))) (by kernel_rfl)
theorem f13_L5_8 {x0a : Option Addr} {x0n x0c : Nat} {x3a : Option Addr} {x3n x3c : Nat} {x9 x10 : Int} {H0 : AHeap} {prot : Nat} {H : AHeap} {x66p x66o x66l : Nat} {x67a : Option Addr} {x67n x67c : Nat} (h1 : aindexAddr cfg.P 22 (Value.slice x3a x3n x3c) (Value.int .i64 x9) = some (Value.pointer (some ⟨x66p, x66o, some x66l⟩))) (h2 : getCells H x66p x66l x66o 1 = some [Value.slice x67a x67n x67c]) (h3 : ¬(x10 < (↑x67n : Int))) : lpOf cfg a13 5 prot H0 ([.slice x0a x0n x0c, .slice x3a x3n x3c, .int .i64 x9, .int .i64 x10], H) = some (Sum.inr (Ex.exit 10, [Value.slice x0a x0n x0c, Value.tuple { toList := [] }, Value.slice x3a x3n x3c, Value.int .i64 x9], H)) :=
  lp_of2 [.v (.pointer (some ⟨x66p, x66o, some x66l⟩)), .v (.slice x67a x67n x67c), .e, .e, .b false] (ai h1 (ai h2 (ai (decide_eq_false h3) (Eq.refl (Sum.inr (Ex.exit 10, [Value.slice x0a x0n x0c, Value.tuple { toList := [] }, Value.slice x3a x3n x3c, Value.int .i64 x9], H) : LS ⊕ LO))))) (by kernel_rfl)
end Go.Proofs.YtkemihfaohkoeaaDoor.Am11d
namespace Go.Proofs.YtkemihfaohkoeaaDoor.Am11d
open Go Go.Proofs.YtkemihfaohkoeaaDoor.Am
/-- Rows of one's own, listed. -/
structure Rows (H : AHeap) (x0 : Value) (N : Nat) (r : Nat → Value) (n : Nat → Nat) (o : Nat → Option Nat) (V : Nat → List Int) : Prop where
  rd : ∃ cs, Rd H 24 1 x0 N cs ∧ ∀ j, j < N → cs[j]? = some (r j)
  rx : ∀ j, j < N → RX H 3 (r j) (n j) (o j) (il (V j))
theorem rows_at {H : AHeap} {x0 : Value} {N : Nat} {r : Nat → Value} (h : ∃ cs, Rd H 24 1 x0 N cs ∧ ∀ j, j < N → cs[j]? = some (r j)) {i : Nat} (hi : i < N) : ∃ id L, aindexAddr cfg.P 22 x0 (.int .i64 (i : Nat)) = some (.pointer (some ⟨id, i, some L⟩)) ∧ getCells H id L i 1 = some [r i] := by
  obtain ⟨cs, h1, h2⟩ := h
  exact rd_at T22 h1 (h2 i hi)
theorem rows_len {H : AHeap} {x0 : Value} {N : Nat} {r : Nat → Value} (h : ∃ cs, Rd H 24 1 x0 N cs ∧ ∀ j, j < N → cs[j]? = some (r j)) : ∃ a c, x0 = .slice a N c := by
  obtain ⟨cs, h1, _⟩ := h
  exact h1.len
theorem il_set (l : List Int) (k : Nat) (c : Int) : (il l).set k (.int .i64 c) = il (l.set k c) := by unfold il; rw [List.map_set]
/-- No two of them are one. -/
def Dis (N : Nat) (o : Nat → Option Nat) : Prop := ∀ i j, i < N → j < N → i ≠ j → ∀ a, o i = some a → o j ≠ some a
theorem Rows.set {H : AHeap} {x0 : Value} {N : Nat} {r : Nat → Value} {n : Nat → Nat} {o : Nat → Option Nat} {V : Nat → List Int} (h : Rows H x0 N r n o V) (hD : Dis N o) {i k : Nat} (hi : i < N) (hk : k < n i) (c : Int) {prot : Nat} (hp : ∀ j, j < N → ∀ a, o j = some a → prot ≤ a) :
    ∃ id H', aindexAddr cfg.P 24 (r i) (.int .i64 (k : Nat)) = some (.pointer (some ⟨id, k, some (n i)⟩)) ∧ setCells H prot id (n i) k [.int .i64 c] = some H' ∧ Rows H' x0 N r n o (fun j => if j = i then (V i).set k c else V j) ∧ H'.length = H.length := by
  obtain ⟨id, H', e, a1, a2, a3, a4, l, wr, a5⟩ := (h.rx i hi).set T34 hk (v := .int .i64 c) rfl (hp i hi)
  refine ⟨id, H', a1, a2, ⟨?_, fun j hj => ?_⟩, ?_⟩
  · obtain ⟨cs, h1, h2⟩ := h.rd
    exact ⟨cs, h1.stayE a5 (by decide) a4, h2⟩
  · by_cases e1 : j = i
    · subst e1
      rw [if_pos rfl, ← il_set]
      exact a3
    · rw [if_neg e1]
      exact (h.rx j hj).stay a4 (fun b hb e2 => hD i j hi hj (fun e => e1 e.symm) id e (by rw [hb]; exact e2.symm))
  · unfold setCells at a2
    rw [a5] at a2
    simp only at a2
    split at a2
    · cases a2; simp
    · cases a2

theorem loop15b {x0 x3 : Value} {N : Nat} {r : Nat → Value} {n : Nat → Nat} {o : Nat → Option Nat} (hD : Dis N o) {prot : Nat} (hp : ∀ j, j < N → ∀ a, o j = some a → prot ≤ a) (hN : N ≤ 1000000) {H0 : AHeap} (h3 : ∃ a m c, x3 = .slice a m c) {i : Nat} (hi : i < N) (hn : n i ≤ 1000000000) : ∀ (d k : Nat) (V : Nat → List Int) (rest : List Int) (H : AHeap), k + d = n i → Rows H x0 N r n o V → V i = List.replicate k (1000 + (i : Int)) ++ rest → rest.length = d →
    ∃ V' H', lpInf (lpOf cfg a13 1 prot H0) ([x0, x3, .int .i64 i, .int .i64 k], H) = some (.exit 2, [x0, x3, .int .i64 i], H') ∧ Rows H' x0 N r n o V' ∧ V' i = List.replicate (n i) (1000 + (i : Int)) ∧ (∀ j, j ≠ i → V' j = V j) ∧ H'.length = H.length
  | 0, k, V, rest, H, hk, hr, hV, hl => by
    obtain ⟨id, L, a1, a2⟩ := rows_at hr.rd hi
    refine ⟨V, H, ?_, hr, ?_, fun _ _ => rfl, rfl⟩
    · obtain ⟨_, _, rfl⟩ := rows_len hr.rd
      obtain ⟨_, _, _, rfl⟩ := h3
      obtain ⟨ra, rc, hre⟩ := (hr.rx i hi).len
      rw [hre] at a2
      exact lp_last (f13_L1_1 a1 a2 (by omega))
    · rw [hV, List.eq_nil_of_length_eq_zero hl, List.append_nil]
      congr 1
  | d + 1, k, V, rest, H, hk, hr, hV, hl => by
    obtain ⟨id, L, a1, a2⟩ := rows_at hr.rd hi
    obtain ⟨id2, H2, b1, b2, b3, b4⟩ := hr.set hD hi (k := k) (by omega) (1000 + (i : Int)) hp
    cases rest with
    | nil => simp at hl
    | cons y rest =>
      obtain ⟨V', H', z1, z2, z3, z4, z5⟩ := loop15b hD hp hN (H0 := H0) h3 hi hn d (k + 1) _ rest H2 (by omega) b3 (by
        rw [if_pos rfl, hV, List.set_append_right _ _ (by simp), List.length_replicate, Nat.sub_self, List.set_cons_zero, List.replicate_succ', List.append_assoc]
        rfl) (by simpa using hl)
      refine ⟨V', H', ?_, z2, z3, fun j hj => by rw [z4 j hj, if_neg hj], by omega⟩
      obtain ⟨_, _, rfl⟩ := rows_len hr.rd
      obtain ⟨_, _, _, rfl⟩ := h3
      obtain ⟨ra, rc, hre⟩ := (hr.rx i hi).len
      rw [hre] at a2 b1
      exact lp_next (f13_L1_0 a1 a2 (by omega) a1 a2 (fit64 (by omega) (by omega)) b1 rfl b2 (fit64 (by omega) (by omega))) z1
theorem loop15a {x0 x3 : Value} {N : Nat} {r : Nat → Value} {n : Nat → Nat} {o : Nat → Option Nat} (hD : Dis N o) {prot : Nat} (hp : ∀ j, j < N → ∀ a, o j = some a → prot ≤ a) (hN : N ≤ 1000000) {H0 : AHeap} (h3 : ∃ a m c, x3 = .slice a m c) (hn : ∀ i, i < N → n i ≤ 1000000000) : ∀ (d i : Nat) (V : Nat → List Int) (H : AHeap), i + d = N → Rows H x0 N r n o V → (∀ j, j < i → V j = List.replicate (n j) (1000 + (j : Int))) →
    ∃ H', lpInf (lpOf cfg a13 0 prot H0) ([x0, x3, .int .i64 i], H) = some (.exit 0, [x0, x3], H') ∧ Rows H' x0 N r n o (fun j => List.replicate (n j) (1000 + (j : Int))) ∧ H'.length = H.length
  | 0, i, V, H, hi, hr, hV => by
    refine ⟨H, ?_, ⟨hr.rd, fun j hj => by rw [← hV j (by omega)]; exact hr.rx j hj⟩, rfl⟩
    obtain ⟨_, _, rfl⟩ := rows_len hr.rd
    obtain ⟨_, _, _, rfl⟩ := h3
    exact lp_last (f13_L0_1 (by omega))
  | d + 1, i, V, H, hi, hr, hV => by
    have hVl : (V i).length = n i := by
      have := hr.rx i (by omega)
      cases ho : o i with
      | none => rw [ho] at this; obtain ⟨a, b, _⟩ := this; have : (il (V i)).length = 0 := by rw [b]; rfl
                simp [il] at this; rw [this, a]; rfl
      | some id => rw [ho] at this; have := this.1; simpa [il] using this
    obtain ⟨V1, H1, y1, y2, y3, y4, y5⟩ := loop15b hD hp hN (H0 := H0) h3 (show i < N by omega) (hn i (by omega)) (n i) 0 V (V i) H (by omega) hr (by simp) hVl
    obtain ⟨H', z1, z2, z3⟩ := loop15a hD hp hN (H0 := H0) h3 hn d (i + 1) V1 H1 (by omega) y2 (fun j hj => by
      by_cases e : j = i
      · subst e; exact y3
      · rw [y4 j e, hV j (by omega)])
    refine ⟨H', ?_, z2, by omega⟩
    obtain ⟨_, _, rfl⟩ := rows_len hr.rd
    obtain ⟨_, _, _, rfl⟩ := h3
    exact lp_next (f13_L0_0 (by omega) y1 (fit64 (by omega) (by omega))) z1
end Go.Proofs.YtkemihfaohkoeaaDoor.Am11d
set_option linter.unusedVariables false
open Go Go.Proofs.YtkemihfaohkoeaaDoor.Am
namespace Go.Proofs.YtkemihfaohkoeaaDoor.Am11d
theorem f23_F_0 {x0a : Option Addr} {x0n x0c : Nat} {H : AHeap} {prot : Nat} {z3a : Option Addr} {z3n z3c : Nat} {H1 : AHeap} {z3a_2 : Option Addr} {z3n_2 z3c_2 : Nat} {H2 : AHeap} (rv : Value) (rH : AHeap) (h1 : 0 ≤ (↑x0n : Int)) (h2 : (↑x0n : Int) = (↑x0n : Int)) (h3 : (↑x0n : Int) ≤ 9223372036854775807) (h4 : (↑24 : Int) * (↑x0n : Int) ≤ 2 ^ 48) (h5 : lpInf (lpOf cfg a23 0 prot H) ([Value.slice (some ⟨List.length H, 0, some ((↑x0n : Int).toNat * 1)⟩) (↑x0n : Int).toNat (↑x0n : Int).toNat, Value.slice x0a x0n x0c, Value.int .i64 (↑x0n : Int), Value.int .i64 0], H ++ [AObj.cells (repCells [Value.slice none 0 0] (↑x0n : Int).toNat) 24 (repCells [Value.slice none 0 0] (↑x0n : Int).toNat).length OMode.row]) = some (Ex.exit 0, [Value.slice z3a z3n z3c], H1)) (h6 : lpInf (lpOf cfg a23 2 prot H) ([Value.slice z3a z3n z3c, Value.slice z3a z3n z3c, Value.int .i64 (↑z3n : Int), Value.int .i64 0], H1) = some (Ex.exit 4, [Value.slice z3a_2 z3n_2 z3c_2], H2)) (h7 : pfin a23 H [Value.slice z3a_2 z3n_2 z3c_2] H2 = (rv, rH)) : callInf cfg 23 [.slice x0a x0n x0c] prot H = some (rv, rH) :=
  fn_of2 a23 [.e, .e, .e, .lo (.exit 0, [.slice z3a z3n z3c], H1), .e, .lo (.exit 4, [.slice z3a_2 z3n_2 z3c_2], H2)] (ai h1 (ai h2 (ai h3 (ai h4 (ai h5 (ai h6 h7)))))) (by kernel_rfl) rfl
theorem f23_L0_0 {x3a : Option Addr} {x3n x3c : Nat} {x13a : Option Addr} {x13n x13c : Nat} {x14 x15 : Int} {H0 : AHeap} {prot : Nat} {H : AHeap} {x18p x18o x18l : Nat} {x19a : Option Addr} {x19n x19c : Nat} {z3a : Option Addr} {z3n z3c : Nat} {z13a : Option Addr} {z13n z13c : Nat} {z14 z15 : Int} {H2 : AHeap} (h1 : x15 < x14) (h2 : aindexAddr cfg.P 22 (Value.slice x13a x13n x13c) (Value.int .i64 x15) = some (Value.pointer (some ⟨x18p, x18o, some x18l⟩))) (h3 : getCells H x18p x18l x18o 1 = some [Value.slice x19a x19n x19c]) (h4 : lpInf (lpOf cfg a23 1 prot H0) ([Value.slice x3a x3n x3c, Value.int .i64 x15, Value.slice x13a x13n x13c, Value.int .i64 x14, Value.int .i64 x15, Value.slice x19a x19n x19c, Value.int .i64 (↑x19n : Int), Value.int .i64 0], H) = some (Ex.exit 2, [Value.slice z3a z3n z3c, Value.slice z13a z13n z13c, Value.int .i64 z14, Value.int .i64 z15], H2)) (h5 : Fit .i64 (z15 + 1)) : lpOf cfg a23 0 prot H0 ([.slice x3a x3n x3c, .slice x13a x13n x13c, .int .i64 x14, .int .i64 x15], H) = some (Sum.inl ([Value.slice z3a z3n z3c, Value.slice z13a z13n z13c, Value.int .i64 z14, Value.int .i64 (z15 + 1)], H2)) :=
  lp_of2 [.e, .b true, .v (.pointer (some ⟨x18p, x18o, some x18l⟩)), .v (.slice x19a x19n x19c), .e, .lo (.exit 2, [.slice z3a z3n z3c, .slice z13a z13n z13c, .int .i64 z14, .int .i64 z15], H2), .e] (ai (decide_eq_true h1) (ai h2 (ai h3 (ai h4 (ai h5 (Eq.refl (Sum.inl ([Value.slice z3a z3n z3c, Value.slice z13a z13n z13c, Value.int .i64 z14, Value.int .i64 (z15 + 1)], H2) : LS ⊕ LO))))))) (by kernel_rfl)
theorem f23_L0_1 {x3a : Option Addr} {x3n x3c : Nat} {x13a : Option Addr} {x13n x13c : Nat} {x14 x15 : Int} {H0 : AHeap} {prot : Nat} {H : AHeap} (h1 : ¬(x15 < x14)) : lpOf cfg a23 0 prot H0 ([.slice x3a x3n x3c, .slice x13a x13n x13c, .int .i64 x14, .int .i64 x15], H) = some (Sum.inr (Ex.exit 0, [Value.slice x3a x3n x3c], H)) :=
  lp_of2 [.e, .b false] (ai (decide_eq_false h1) (Eq.refl (Sum.inr (Ex.exit 0, [Value.slice x3a x3n x3c], H) : LS ⊕ LO))) (by kernel_rfl)
theorem f23_L1_0 {x3a : Option Addr} {x3n x3c : Nat} {x4 : Int} {x13a : Option Addr} {x13n x13c : Nat} {x14 x15 : Int} {x20a : Option Addr} {x20n x20c : Nat} {x21 x22 : Int} {H0 : AHeap} {prot : Nat} {H : AHeap} {x24p x24o x24l : Nat} {x25 : Int} {x30p x30o x30l : Nat} {x31a : Option Addr} {x31n x31c : Nat} {x34a : Option Addr} {x34n x34c : Nat} {H2 : AHeap} {x35p x35o x35l : Nat} {H3 : AHeap} (h1 : x22 < x21) (h2 : aindexAddr cfg.P 24 (Value.slice x20a x20n x20c) (Value.int .i64 x22) = some (Value.pointer (some ⟨x24p, x24o, some x24l⟩))) (h3 : getCells H x24p x24l x24o 1 = some [Value.int .i64 x25]) (h4 : aindexAddr cfg.P 22 (Value.slice x3a x3n x3c) (Value.int .i64 x25) = some (Value.pointer (some ⟨x30p, x30o, some x30l⟩))) (h5 : getCells H x30p x30l x30o 1 = some [Value.slice x31a x31n x31c]) (h6 : aappend cfg.P (List.length H0) true 24 24 (Value.slice x31a x31n x31c) (Value.slice (some ⟨List.length H, 0, some (1 * 1)⟩) 1 1) (H ++ [wo [Value.int .i64 x4] 3]) = some (Value.slice x34a x34n x34c, H2)) (h7 : aindexAddr cfg.P 22 (Value.slice x3a x3n x3c) (Value.int .i64 x25) = some (Value.pointer (some ⟨x35p, x35o, some x35l⟩))) (h8 : [Value.slice x34a x34n x34c].length = 1) (h9 : setCells H2 (List.length H0) x35p x35l x35o [Value.slice x34a x34n x34c] = some H3) (h10 : Fit .i64 (x22 + 1)) : lpOf cfg a23 1 prot H0 ([.slice x3a x3n x3c, .int .i64 x4, .slice x13a x13n x13c, .int .i64 x14, .int .i64 x15, .slice x20a x20n x20c, .int .i64 x21, .int .i64 x22], H) = some (Sum.inl ([Value.slice x3a x3n x3c, Value.int .i64 x4, Value.slice x13a x13n x13c, Value.int .i64 x14, Value.int .i64 x15, Value.slice x20a x20n x20c, Value.int .i64 x21, Value.int .i64 (x22 + 1)], H3)) :=
  lp_of2 [.e, .b true, .v (.pointer (some ⟨x24p, x24o, some x24l⟩)), .v (.int .i64 x25), .v (.pointer (some ⟨x30p, x30o, some x30l⟩)), .v (.slice x31a x31n x31c), .e, .r (.slice x34a x34n x34c) H2, .v (.pointer (some ⟨x35p, x35o, some x35l⟩)), .h H3, .e] (ai (decide_eq_true h1) (ai h2 (ai h3 (ai h4 (ai h5 (ai h6 (ai h7 (ai h8 (ai h9 (ai h10 (Eq.refl (Sum.inl ([Value.slice x3a x3n x3c, Value.int .i64 x4, Value.slice x13a x13n x13c, Value.int .i64 x14, Value.int .i64 x15, Value.slice x20a x20n x20c, Value.int .i64 x21, Value.int .i64 (x22 + 1)], H3) : LS ⊕ LO)))))))))))) (by kernel_rfl)
theorem f23_L1_1 {x3a : Option Addr} {x3n x3c : Nat} {x4 : Int} {x13a : Option Addr} {x13n x13c : Nat} {x14 x15 : Int} {x20a : Option Addr} {x20n x20c : Nat} {x21 x22 : Int} {H0 : AHeap} {prot : Nat} {H : AHeap} (h1 : ¬(x22 < x21)) : lpOf cfg a23 1 prot H0 ([.slice x3a x3n x3c, .int .i64 x4, .slice x13a x13n x13c, .int .i64 x14, .int .i64 x15, .slice x20a x20n x20c, .int .i64 x21, .int .i64 x22], H) = some (Sum.inr (Ex.exit 2, [Value.slice x3a x3n x3c, Value.slice x13a x13n x13c, Value.int .i64 x14, Value.int .i64 x15], H)) :=
  lp_of2 [.e, .b false] (ai (decide_eq_false h1) (Eq.refl (Sum.inr (Ex.exit 2, [Value.slice x3a x3n x3c, Value.slice x13a x13n x13c, Value.int .i64 x14, Value.int .i64 x15], H) : LS ⊕ LO))) (by kernel_rfl)
theorem f23_L2_0 {x3a : Option Addr} {x3n x3c : Nat} {x38a : Option Addr} {x38n x38c : Nat} {x39 x40 : Int} {H0 : AHeap} {prot : Nat} {H : AHeap} {x42p x42o x42l : Nat} {x43a : Option Addr} {x43n x43c : Nat} {H2 : AHeap} (h1 : x40 < x39) (h2 : aindexAddr cfg.P 22 (Value.slice x38a x38n x38c) (Value.int .i64 x40) = some (Value.pointer (some ⟨x42p, x42o, some x42l⟩))) (h3 : getCells H x42p x42l x42o 1 = some [Value.slice x43a x43n x43c]) (h4 : callInf cfg 37 [Value.slice x43a x43n x43c] (List.length H0) H = some (Value.tuple { toList := [] }, H2)) (h5 : Fit .i64 (x40 + 1)) : lpOf cfg a23 2 prot H0 ([.slice x3a x3n x3c, .slice x38a x38n x38c, .int .i64 x39, .int .i64 x40], H) = some (Sum.inl ([Value.slice x3a x3n x3c, Value.slice x38a x38n x38c, Value.int .i64 x39, Value.int .i64 (x40 + 1)], H2)) :=
  lp_of2 [.e, .b true, .v (.pointer (some ⟨x42p, x42o, some x42l⟩)), .v (.slice x43a x43n x43c), .r (.tuple #[]) H2, .e] (ai (decide_eq_true h1) (ai h2 (ai h3 (ai h4 (ai h5 (Eq.refl (Sum.inl ([Value.slice x3a x3n x3c, Value.slice x38a x38n x38c, Value.int .i64 x39, Value.int .i64 (x40 + 1)], H2) : LS ⊕ LO))))))) (by kernel_rfl)
theorem f23_L2_1 {x3a : Option Addr} {x3n x3c : Nat} {x38a : Option Addr} {x38n x38c : Nat} {x39 x40 : Int} {H0 : AHeap} {prot : Nat} {H : AHeap} (h1 : ¬(x40 < x39)) : lpOf cfg a23 2 prot H0 ([.slice x3a x3n x3c, .slice x38a x38n x38c, .int .i64 x39, .int .i64 x40], H) = some (Sum.inr (Ex.exit 4, [Value.slice x3a x3n x3c], H)) :=
  lp_of2 [.e, .b false] (ai (decide_eq_false h1) (Eq.refl (Sum.inr (Ex.exit 4, [Value.slice x3a x3n x3c], H) : LS ⊕ LO))) (by kernel_rfl)
end Go.Proofs.YtkemihfaohkoeaaDoor.Am11d
set_option linter.unusedVariables false
open Go Go.Proofs.YtkemihfaohkoeaaDoor.Am
namespace Go.Proofs.YtkemihfaohkoeaaDoor.Am11d
theorem f29_F_0 {x0a : Option Addr} {x0n x0c : Nat} {H : AHeap} {prot : Nat} {z3a : Option Addr} {z3n z3c : Nat} {H1 : AHeap} (rv : Value) (rH : AHeap) (h1 : 0 ≤ (↑x0n : Int)) (h2 : (↑x0n : Int) = (↑x0n : Int)) (h3 : (↑x0n : Int) ≤ 9223372036854775807) (h4 : (↑24 : Int) * (↑x0n : Int) ≤ 2 ^ 48) (h5 : lpInf (lpOf cfg a29 0 prot H) ([Value.slice x0a x0n x0c, Value.slice (some ⟨List.length H, 0, some ((↑x0n : Int).toNat * 1)⟩) (↑x0n : Int).toNat (↑x0n : Int).toNat, Value.int .i64 0], H ++ [AObj.cells (repCells [Value.slice none 0 0] (↑x0n : Int).toNat) 24 (repCells [Value.slice none 0 0] (↑x0n : Int).toNat).length OMode.row]) = some (Ex.exit 0, [Value.slice z3a z3n z3c], H1)) (h6 : pfin a29 H [Value.slice z3a z3n z3c] H1 = (rv, rH)) : callInf cfg 29 [.slice x0a x0n x0c] prot H = some (rv, rH) :=
  fn_of2 a29 [.e, .e, .lo (.exit 0, [.slice z3a z3n z3c], H1)] (ai h1 (ai h2 (ai h3 (ai h4 (ai h5 h6))))) (by kernel_rfl) rfl
theorem f29_L0_0 {x0a : Option Addr} {x0n x0c : Nat} {x3a : Option Addr} {x3n x3c : Nat} {x4 : Int} {H0 : AHeap} {prot : Nat} {H : AHeap} {z0a : Option Addr} {z0n z0c : Nat} {z3a : Option Addr} {z3n z3c : Nat} {z4 : Int} {H2 : AHeap} (h1 : x4 < (↑x0n : Int)) (h2 : lpInf (lpOf cfg a29 1 prot H0) ([Value.slice x0a x0n x0c, Value.slice x3a x3n x3c, Value.int .i64 x4, Value.int .i64 0], H) = some (Ex.exit 2, [Value.slice z0a z0n z0c, Value.slice z3a z3n z3c, Value.int .i64 z4], H2)) (h3 : Fit .i64 (z4 + 1)) : lpOf cfg a29 0 prot H0 ([.slice x0a x0n x0c, .slice x3a x3n x3c, .int .i64 x4], H) = some (Sum.inl ([Value.slice z0a z0n z0c, Value.slice z3a z3n z3c, Value.int .i64 (z4 + 1)], H2)) :=
  lp_of2 [.e, .e, .b true, .lo (.exit 2, [.slice z0a z0n z0c, .slice z3a z3n z3c, .int .i64 z4], H2), .e] (ai (decide_eq_true h1) (ai h2 (ai h3 (Eq.refl (Sum.inl ([Value.slice z0a z0n z0c, Value.slice z3a z3n z3c, Value.int .i64 (z4 + 1)], H2) : LS ⊕ LO))))) (by kernel_rfl)
theorem f29_L0_1 {x0a : Option Addr} {x0n x0c : Nat} {x3a : Option Addr} {x3n x3c : Nat} {x4 : Int} {H0 : AHeap} {prot : Nat} {H : AHeap} (h1 : ¬(x4 < (↑x0n : Int))) : lpOf cfg a29 0 prot H0 ([.slice x0a x0n x0c, .slice x3a x3n x3c, .int .i64 x4], H) = some (Sum.inr (Ex.exit 0, [Value.slice x3a x3n x3c], H)) :=
  lp_of2 [.e, .e, .b false] (ai (decide_eq_false h1) (Eq.refl (Sum.inr (Ex.exit 0, [Value.slice x3a x3n x3c], H) : LS ⊕ LO))) (by kernel_rfl)
theorem f29_L1_0 {x0a : Option Addr} {x0n x0c : Nat} {x3a : Option Addr} {x3n x3c : Nat} {x4 x5 : Int} {H0 : AHeap} {prot : Nat} {H : AHeap} {x18p x18o x18l : Nat} {x19a : Option Addr} {x19n x19c x27p x27o x27l : Nat} {x28a : Option Addr} {x28n x28c x30p x30o x30l : Nat} {x31 : Int} {x35p x35o x35l : Nat} {x36a : Option Addr} {x36n x36c x38p x38o x38l : Nat} {x39 : Int} {x40p x40o x40l : Nat} {x41a : Option Addr} {x41n x41c : Nat} {x44a : Option Addr} {x44n x44c : Nat} {H2 : AHeap} {x45p x45o x45l : Nat} {H3 : AHeap} (h1 : aindexAddr cfg.P 22 (Value.slice x0a x0n x0c) (Value.int .i64 x4) = some (Value.pointer (some ⟨x18p, x18o, some x18l⟩))) (h2 : getCells H x18p x18l x18o 1 = some [Value.slice x19a x19n x19c]) (h3 : x5 < (↑x19n : Int)) (h4 : aindexAddr cfg.P 22 (Value.slice x0a x0n x0c) (Value.int .i64 x4) = some (Value.pointer (some ⟨x27p, x27o, some x27l⟩))) (h5 : getCells H x27p x27l x27o 1 = some [Value.slice x28a x28n x28c]) (h6 : aindexAddr cfg.P 24 (Value.slice x28a x28n x28c) (Value.int .i64 x5) = some (Value.pointer (some ⟨x30p, x30o, some x30l⟩))) (h7 : getCells H x30p x30l x30o 1 = some [Value.int .i64 x31]) (h8 : aindexAddr cfg.P 22 (Value.slice x0a x0n x0c) (Value.int .i64 x4) = some (Value.pointer (some ⟨x35p, x35o, some x35l⟩))) (h9 : getCells H x35p x35l x35o 1 = some [Value.slice x36a x36n x36c]) (h10 : aindexAddr cfg.P 24 (Value.slice x36a x36n x36c) (Value.int .i64 x5) = some (Value.pointer (some ⟨x38p, x38o, some x38l⟩))) (h11 : getCells H x38p x38l x38o 1 = some [Value.int .i64 x39]) (h12 : aindexAddr cfg.P 22 (Value.slice x3a x3n x3c) (Value.int .i64 x39) = some (Value.pointer (some ⟨x40p, x40o, some x40l⟩))) (h13 : getCells H x40p x40l x40o 1 = some [Value.slice x41a x41n x41c]) (h14 : aappend cfg.P (List.length H0) false 24 24 (Value.slice x41a x41n x41c) (Value.slice (some ⟨List.length H, 0, some (1 * 1)⟩) 1 1) (H ++ [wo [Value.int .i64 x4] 3]) = some (Value.slice x44a x44n x44c, H2)) (h15 : aindexAddr cfg.P 22 (Value.slice x3a x3n x3c) (Value.int .i64 x31) = some (Value.pointer (some ⟨x45p, x45o, some x45l⟩))) (h16 : [Value.slice x44a x44n x44c].length = 1) (h17 : setCells H2 (List.length H0) x45p x45l x45o [Value.slice x44a x44n x44c] = some H3) (h18 : Fit .i64 (x5 + 1)) : lpOf cfg a29 1 prot H0 ([.slice x0a x0n x0c, .slice x3a x3n x3c, .int .i64 x4, .int .i64 x5], H) = some (Sum.inl ([Value.slice x0a x0n x0c, Value.slice x3a x3n x3c, Value.int .i64 x4, Value.int .i64 (x5 + 1)], H3)) :=
  lp_of2 [.v (.pointer (some ⟨x18p, x18o, some x18l⟩)), .v (.slice x19a x19n x19c), .e, .e, .b true, .v (.pointer (some ⟨x27p, x27o, some x27l⟩)), .v (.slice x28a x28n x28c), .v (.pointer (some ⟨x30p, x30o, some x30l⟩)), .v (.int .i64 x31), .v (.pointer (some ⟨x35p, x35o, some x35l⟩)), .v (.slice x36a x36n x36c), .v (.pointer (some ⟨x38p, x38o, some x38l⟩)), .v (.int .i64 x39), .v (.pointer (some ⟨x40p, x40o, some x40l⟩)), .v (.slice x41a x41n x41c), .e, .r (.slice x44a x44n x44c) H2, .v (.pointer (some ⟨x45p, x45o, some x45l⟩)), .h H3, .e] (ai h1 (ai h2 (ai (decide_eq_true h3) (ai h4 (ai h5 (ai h6 (ai h7 (ai h8 (ai h9 (ai h10 (ai h11 (ai h12 (ai h13 (ai h14 (ai h15 (ai h16 (ai h17 (ai h18 (Eq.refl (Sum.inl ([Value.slice x0a x0n x0c, Value.slice x3a x3n x3c, Value.int .i64 x4, Value.int .i64 (x5 + 1)], H3) : LS ⊕ LO)))))))))))))))))))) (by kernel_rfl)
theorem f29_L1_1 {x0a : Option Addr} {x0n x0c : Nat} {x3a : Option Addr} {x3n x3c : Nat} {x4 x5 : Int} {H0 : AHeap} {prot : Nat} {H : AHeap} {x18p x18o x18l : Nat} {x19a : Option Addr} {x19n x19c : Nat} (h1 : aindexAddr cfg.P 22 (Value.slice x0a x0n x0c) (Value.int .i64 x4) = some (Value.pointer (some ⟨x18p, x18o, some x18l⟩))) (h2 : getCells H x18p x18l x18o 1 = some [Value.slice x19a x19n x19c]) (h3 : ¬(x5 < (↑x19n : Int))) : lpOf cfg a29 1 prot H0 ([.slice x0a x0n x0c, .slice x3a x3n x3c, .int .i64 x4, .int .i64 x5], H) = some (Sum.inr (Ex.exit 2, [Value.slice x0a x0n x0c, Value.slice x3a x3n x3c, Value.int .i64 x4], H)) :=
  lp_of2 [.v (.pointer (some ⟨x18p, x18o, some x18l⟩)), .v (.slice x19a x19n x19c), .e, .e, .b false] (ai h1 (ai h2 (ai (decide_eq_false h3) (Eq.refl (Sum.inr (Ex.exit 2, [Value.slice x0a x0n x0c, Value.slice x3a x3n x3c, Value.int .i64 x4], H) : LS ⊕ LO))))) (by kernel_rfl)
end Go.Proofs.YtkemihfaohkoeaaDoor.Am11d
namespace Go.Proofs.YtkemihfaohkoeaaDoor.Am11d
open Go Go.Proofs.YtkemihfaohkoeaaDoor.Am
/-! All edges turned round. -/
def addE (T : Nat → List Nat) (u v : Nat) : Nat → List Nat := fun j => if j = u then T u ++ [v] else T j
def goRow (v : Nat) : List Nat → (Nat → List Nat) → Nat → List Nat
  | [], T => T
  | u :: l, T => goRow v l (addE T u v)
def goAll (G : List (List Int)) : Nat → Nat → (Nat → List Nat) → Nat → List Nat
  | 0, _, T => T
  | d + 1, v, T => goAll G d (v + 1) (goRow v (sc G v) T)
def turnT (G : List (List Int)) : Nat → List Nat := goAll G G.length 0 (fun _ => [])
theorem goRow_mem {v : Nat} {w j : Nat} : ∀ (l : List Nat) (T : Nat → List Nat), w ∈ goRow v l T j ↔ w ∈ T j ∨ (w = v ∧ j ∈ l)
  | [], T => by simp [goRow]
  | u :: l, T => by
    rw [goRow, goRow_mem l]
    unfold addE
    by_cases h : j = u
    · rw [if_pos h, List.mem_append, List.mem_singleton, h]
      constructor
      · rintro ((h1 | h1) | ⟨h1, h2⟩)
        · exact .inl h1
        · exact .inr ⟨h1, by simp⟩
        · exact .inr ⟨h1, by simp [h2]⟩
      · rintro (h1 | ⟨h1, _⟩)
        · exact .inl (.inl h1)
        · exact .inl (.inr h1)
    · rw [if_neg h]
      constructor
      · rintro (h1 | ⟨h1, h2⟩)
        · exact .inl h1
        · exact .inr ⟨h1, by simp [h2]⟩
      · rintro (h1 | ⟨h1, h2⟩)
        · exact .inl h1
        · rcases List.mem_cons.1 h2 with h2 | h2
          · exact absurd h2 h
          · exact .inr ⟨h1, h2⟩
theorem goAll_mem {G : List (List Int)} {w j : Nat} : ∀ (d v : Nat) (T : Nat → List Nat), w ∈ goAll G d v T j ↔ w ∈ T j ∨ (v ≤ w ∧ w < v + d ∧ j ∈ sc G w)
  | 0, v, T => by
    simp only [goAll, Nat.add_zero]
    constructor
    · exact .inl
    · rintro (h | ⟨h1, h2, _⟩)
      · exact h
      · omega
  | d + 1, v, T => by
    rw [goAll, goAll_mem d, goRow_mem]
    constructor
    · rintro ((h | ⟨rfl, h⟩) | ⟨h1, h2, h3⟩)
      · exact .inl h
      · exact .inr ⟨Nat.le_refl _, by omega, h⟩
      · exact .inr ⟨by omega, by omega, h3⟩
    · rintro (h | ⟨h1, h2, h3⟩)
      · exact .inl (.inl h)
      · by_cases e : w = v
        · subst e; exact .inl (.inr ⟨rfl, h3⟩)
        · exact .inr ⟨by omega, by omega, h3⟩
theorem turn_mem {G : List (List Int)} {w j : Nat} : w ∈ turnT G j ↔ w < G.length ∧ j ∈ sc G w := by
  unfold turnT
  rw [goAll_mem]
  simp
/-- They rise. -/
def RisL (T : Nat → List Nat) (v : Nat) : Prop := ∀ j, (T j).Pairwise (· ≤ ·) ∧ ∀ x ∈ T j, x ≤ v
theorem RisL.add {T : Nat → List Nat} {u v : Nat} (h : RisL T v) : RisL (addE T u v) v := fun j => by
  unfold addE
  by_cases e : j = u
  · rw [if_pos e]
    refine ⟨List.pairwise_append.2 ⟨(h u).1, List.pairwise_singleton _ _, fun a ha b hb => ?_⟩, fun x hx => ?_⟩
    · rw [List.mem_singleton.1 hb]; exact (h u).2 a ha
    · rcases List.mem_append.1 hx with hx | hx
      · exact (h u).2 x hx
      · rw [List.mem_singleton.1 hx]; exact Nat.le_refl _
  · rw [if_neg e]; exact h j
theorem RisL.row {v : Nat} : ∀ (l : List Nat) {T : Nat → List Nat}, RisL T v → RisL (goRow v l T) v
  | [], _, h => h
  | _ :: l, _, h => RisL.row l h.add
theorem RisL.all {G : List (List Int)} : ∀ (d v : Nat) {T : Nat → List Nat}, RisL T v → RisL (goAll G d v T) (v + d)
  | 0, v, T, h => h
  | d + 1, v, T, h => by
    rw [goAll, show v + (d + 1) = v + 1 + d by omega]
    refine RisL.all d (v + 1) fun j => ?_
    have := RisL.row (sc G v) h j
    exact ⟨this.1, fun x hx => by have := this.2 x hx; omega⟩
theorem ris_of {l : List Nat} (h : l.Pairwise (· ≤ ·)) : Ris l := fun i j hij hj => by
  rw [List.getD_eq_getElem?_getD, List.getD_eq_getElem?_getD, List.getElem?_eq_getElem hj, List.getElem?_eq_getElem (show i < l.length by omega)]
  simp only [Option.getD_some]
  by_cases e : i = j
  · subst e; exact Nat.le_refl _
  · exact List.pairwise_iff_getElem.1 h i j _ hj (by omega)
theorem turn_ris (G : List (List Int)) (j : Nat) : Ris (turnT G j) := ris_of (RisL.all (G := G) G.length 0 (T := fun _ => []) (fun j => ⟨List.Pairwise.nil, fun x hx => by cases hx⟩) j).1

/-! ### The machine -/
structure Out (B : Nat) (H : AHeap) (x3 : Value) (N : Nat) (r : Nat → Value) (o : Nat → Option Nat) (o3 : Nat) (T : Nat → List Nat) : Prop where
  x3 : Own H 24 1 x3 (some o3) N ((List.range N).map r)
  rx : ∀ j, j < N → Own H 3 1 (r j) (o j) (T j).length (il (nl (T j)))
  b3 : B ≤ o3
  bo : ∀ j, j < N → ∀ a, o j = some a → B ≤ a
  dis : Dis N o
theorem range_at {N : Nat} (r : Nat → Value) {u : Nat} (h : u < N) : ((List.range N).map r)[u]? = some (r u) := by rw [List.getElem?_map, List.getElem?_range h]; rfl
theorem own_lt {H : AHeap} {e s : Nat} {x : Value} {id n : Nat} {cs : List Value} (h : Own H e s x (some id) n cs) : id < H.length := by
  obtain ⟨_, _, _, wr, _, h2⟩ := h
  exact (List.getElem?_eq_some_iff.1 h2).1
theorem Out.app {B : Nat} {H : AHeap} {x3 : Value} {N : Nat} {r : Nat → Value} {o : Nat → Option Nat} {o3 : Nat} {T : Nat → List Nat} (h : Out B H x3 N r o o3 T) {u : Nat} (hu : u < N) (v : Nat) {room : Bool} (hn : (T u).length ≤ 10000000) (hB : B ≤ H.length) :
    ∃ a' c' H2 H3 id3 L3, aindexAddr cfg.P 22 x3 (.int .i64 (u : Nat)) = some (.pointer (some ⟨id3, u, some L3⟩)) ∧ getCells H id3 L3 u 1 = some [r u] ∧
      aappend cfg.P B room 24 24 (r u) (.slice (some ⟨H.length, 0, some (1 * 1)⟩) 1 1) (H ++ [wo [.int .i64 (v : Int)] 3]) = some (.slice a' ((T u).length + 1) c', H2) ∧
      setCells H2 B id3 L3 u [.slice a' ((T u).length + 1) c'] = some H3 ∧ (∃ r' o', Out B H3 x3 N r' o' o3 (addE T u v)) ∧ (∀ q, q < B → H3[q]? = H[q]?) ∧ B ≤ H3.length := by
  have hru := h.rx u hu
  obtain ⟨a', c', ou, H2, q1, q2, q3, q4, q5, q6⟩ := own_app T34 hru (ecs := [.int .i64 (v : Int)]) rfl rfl (prot := B) (room := room) (fun id e => h.bo u hu id e) hB (by omega) (L := 1 * 1) rfl (el := [Value.int .i64 (v : Int)].length) rfl
  obtain ⟨id, e3, p1, p2⟩ := own_at T22 h.x3 (range_at r hu)
  cases e3
  have hx2 : Own H2 24 1 x3 (some o3) N ((List.range N).map r) := by
    cases ho : o u with
    | none => rw [ho] at q3; exact h.x3.stay q3 (fun _ _ e => by cases e)
    | some a =>
      rw [ho] at q3 hru
      obtain ⟨_, _, _, wr, _, hH⟩ := hru
      exact h.x3.stayE hH (by decide) q3
  obtain ⟨id, H3, e3, s1, s2, s3, s4, s5⟩ := own_setS T22 hx2 (i := u) (j := 0) hu (vs := [.slice a' ((T u).length + 1) c']) (by simp) rfl (prot := B) (fun id e => by cases e; exact h.b3)
  cases e3
  obtain ⟨_, _, _, wr3, _, hH3⟩ := hx2
  have hput : putList ((List.range N).map r) (u * 1 + 0) [.slice a' ((T u).length + 1) c'] = (List.range N).map (fun j => if j = u then .slice a' ((T u).length + 1) c' else r j) := by
    rw [Nat.mul_one, Nat.add_zero, put_one _ (by simp; exact hu)]
    apply List.ext_getElem?
    intro j
    by_cases e : j = u
    · subst e
      rw [List.getElem?_set_self (by simp; exact hu), range_at _ hu, if_pos rfl]
    · rw [List.getElem?_set_ne (fun h => e h.symm), List.getElem?_map, List.getElem?_map]
      by_cases hj : j < N
      · rw [List.getElem?_range hj]; simp [e]
      · rw [List.getElem?_eq_none (by simp; omega)]; rfl
  rw [hput] at s3
  have hil : il (nl (T u)) ++ [Value.int .i64 (v : Int)] = il (nl (T u ++ [v])) := by simp [il, nl]
  rw [hil] at q2
  rw [Nat.mul_one, Nat.add_zero] at s2
  refine ⟨a', c', H2, H3, o3, _, p1, p2, q1, s2, ⟨_, fun j => if j = u then some ou else o j, s3, fun j hj => ?_, h.b3, fun j hj a ha => ?_, ?_⟩, fun q hq => ?_, ?_⟩
  · by_cases e : j = u
    · subst e
      rw [if_pos rfl, if_pos rfl]
      unfold addE
      rw [if_pos rfl, List.length_append]
      exact q2.stayE hH3 (by decide) s4
    · rw [if_neg e, if_neg e]
      unfold addE
      rw [if_neg e]
      exact ((h.rx j hj).stay q3 (fun id e1 e2 => h.dis j u hj hu e id e1 e2)).stayE hH3 (by decide) s4
  · by_cases e : j = u
    · subst e
      rw [if_pos rfl] at ha
      cases ha
      exact q4
    · rw [if_neg e] at ha
      exact h.bo j hj a ha
  · have hnew : ∀ j, j < N → j ≠ u → o j ≠ some ou := fun j hj hne e => by
      cases ho : o u with
      | none =>
        have h1 := q5 ho
        have h2 := h.rx j hj
        rw [e] at h2
        have := own_lt h2
        omega
      | some a =>
        have h1 := q6 a ho
        exact h.dis j u hj hu hne ou e (by rw [ho, h1])
    intro i j hi hj hne a ha hb
    simp only at ha hb
    by_cases e1 : i = u
    · have e2 : j ≠ u := fun e2 => hne (by rw [e1, e2])
      rw [if_pos e1] at ha
      rw [if_neg e2] at hb
      cases ha
      exact hnew j hj e2 hb
    · rw [if_neg e1] at ha
      by_cases e2 : j = u
      · rw [if_pos e2] at hb
        cases hb
        exact hnew i hi e1 ha
      · rw [if_neg e2] at hb
        exact h.dis i j hi hj hne a ha hb
  · have hb3 := h.b3
    rw [s4.2 q (by have := q3.1; omega) (fun e => by have := Option.some.inj e; omega)]
    exact q3.2 q (by omega) (fun e => by have := h.bo u hu q e; omega)
  · have := q3.1; have := s4.1; omega
end Go.Proofs.YtkemihfaohkoeaaDoor.Am11d
namespace Go.Proofs.YtkemihfaohkoeaaDoor.Am11d
open Go Go.Proofs.YtkemihfaohkoeaaDoor.Am
theorem keep_stay {B : AHeap} {H : AHeap} (h1 : ∀ q, q < B.length → H[q]? = B[q]?) (h2 : B.length ≤ H.length) : Stay none B H := ⟨h2, fun q hq _ => h1 q hq⟩
theorem addE_len {T : Nat → List Nat} {u v j : Nat} : (addE T u v j).length ≤ (T j).length + 1 := by
  unfold addE
  split
  · rename_i h; subst h; simp
  · omega
theorem loop33i {G : List (List Int)} (hG : Good G) {H0 : AHeap} {x13 x20 : Value} (hx13 : ∃ a c, x13 = .slice a G.length c) {v : Nat} (hv : v < G.length) (h20 : Rd H0 3 1 x20 G[v].length (il G[v])) {x3 : Value} {o3 prot rest : Nat} : ∀ (d i : Nat) (T : Nat → List Nat) (r : Nat → Value) (o : Nat → Option Nat) (H : AHeap), i + d = G[v].length → Out H0.length H x3 G.length r o o3 T → Stay none H0 H → (∀ j, (T j).length + (d + rest) ≤ 1048576) →
    ∃ r' o' H', lpInf (lpOf cfg a23 1 prot H0) ([x3, .int .i64 v, x13, .int .i64 G.length, .int .i64 v, x20, .int .i64 G[v].length, .int .i64 i], H) = some (.exit 2, [x3, x13, .int .i64 G.length, .int .i64 v], H') ∧ Out H0.length H' x3 G.length r' o' o3 (goRow v ((sc G v).drop i) T) ∧ Stay none H0 H' ∧ ∀ j, (goRow v ((sc G v).drop i) T j).length + rest ≤ 1048576
  | 0, i, T, r, o, H, hi, hO, hst, hb => by
    have hl := sc_len hv
    rw [List.drop_of_length_le (by omega)]
    refine ⟨r, o, H, ?_, hO, hst, fun j => by have := hb j; simp only [goRow]; omega⟩
    obtain ⟨_, _, rfl⟩ := hx13
    obtain ⟨_, _, rfl⟩ := h20.len
    obtain ⟨_, _, rfl⟩ := hO.x3.len
    exact lp_last (f23_L1_1 (by omega))
  | d + 1, i, T, r, o, H, hi, hO, hst, hb => by
    have hil : i < G[v].length := by omega
    have hl := sc_len hv
    have hsh := hG.2.1 _ (List.getElem_mem hv)
    obtain ⟨u, hue, hul, hsc⟩ := sc_get hG hv hil
    obtain ⟨id, L, a1, a2⟩ := rd_at T34 (h20.stay hst) (il_get hil)
    rw [hue] at a2
    have hbu := hb u
    obtain ⟨a', c', H2, H3, id3, L3, p1, p2, p3, p4, ⟨r', o', p5⟩, p6, p7⟩ := hO.app hul v (room := true) (by omega) hst.1
    have hst3 : Stay none H0 H3 := keep_stay (fun q hq => (p6 q hq).trans (hst.2 q hq (by simp))) p7
    obtain ⟨r2, o2, H', z1, z2, z3, z4⟩ := loop33i hG hx13 hv h20 (prot := prot) (rest := rest) d (i + 1) (addE T u v) r' o' H3 (by omega) p5 hst3 (fun j => by have := hb j; have := addE_len (T := T) (u := u) (v := v) (j := j); omega)
    have hdrop : (sc G v).drop i = u :: (sc G v).drop (i + 1) := by
      rw [List.drop_eq_getElem_cons (by omega)]
      rw [List.getElem?_eq_getElem (by omega)] at hsc
      rw [Option.some.inj hsc]
    rw [hdrop]
    refine ⟨r2, o2, H', ?_, z2, z3, z4⟩
    have hrl := (hO.rx u hul).len
    obtain ⟨_, _, rfl⟩ := hx13
    obtain ⟨_, _, rfl⟩ := h20.len
    obtain ⟨_, _, rfl⟩ := hO.x3.len
    obtain ⟨_, _, hre⟩ := hrl
    rw [hre] at p2 p3
    exact lp_next (f23_L1_0 (by omega) a1 a2 p1 p2 p3 p1 rfl p4 (fit64 (by omega) (by omega))) z1
def lens (l : List (List Int)) : Nat := (l.map List.length).sum
theorem loop33o {G : List (List Int)} (hG : Good G) {H0 : AHeap} {x13 : Value} (hg : Gr H0 x13 G) {x3 : Value} {o3 prot : Nat} : ∀ (d v : Nat) (T : Nat → List Nat) (r : Nat → Value) (o : Nat → Option Nat) (H : AHeap), v + d = G.length → Out H0.length H x3 G.length r o o3 T → Stay none H0 H → (∀ j, (T j).length + lens (G.drop v) ≤ 1048576) →
    ∃ r' o' H', lpInf (lpOf cfg a23 0 prot H0) ([x3, x13, .int .i64 G.length, .int .i64 v], H) = some (.exit 0, [x3], H') ∧ Out H0.length H' x3 G.length r' o' o3 (goAll G d v T) ∧ Stay none H0 H' ∧ ∀ j, (goAll G d v T j).length ≤ 1048576
  | 0, v, T, r, o, H, hv, hO, hst, hb => by
    refine ⟨r, o, H, ?_, hO, hst, fun j => by have := hb j; simp only [goAll]; omega⟩
    obtain ⟨_, _, rfl⟩ := hg.len
    obtain ⟨_, _, rfl⟩ := hO.x3.len
    exact lp_last (f23_L0_1 (by omega))
  | d + 1, v, T, r, o, H, hv, hO, hst, hb => by
    have hvl : v < G.length := by omega
    have h5 := hG.1
    obtain ⟨id, L, x20, a1, a2, a3⟩ := hg.row hvl
    obtain ⟨id', L', x20', a1', a2', a3'⟩ := (hg.stay hst).row hvl
    have hsplit : lens (G.drop v) = G[v].length + lens (G.drop (v + 1)) := by
      unfold lens
      rw [List.drop_eq_getElem_cons hvl, List.map_cons, List.sum_cons]
    -- the row, read in the base and now
    obtain ⟨cs, c1, c2⟩ := hg
    obtain ⟨x, c3, c4⟩ := c2 v G[v] (List.getElem?_eq_getElem hvl)
    obtain ⟨i1, M1, d1, d2⟩ := rd_at T22 (c1.stay hst) c3
    obtain ⟨r1, o1, H1, y1, y2, y3, y4⟩ := loop33i hG c1.len hvl c4 (x3 := x3) (o3 := o3) (prot := prot) (rest := lens (G.drop (v + 1))) G[v].length 0 T r o H (by omega) hO hst (fun j => by have := hb j; omega)
    rw [List.drop_zero] at y2 y4
    obtain ⟨r2, o2, H', z1, z2, z3, z4⟩ := loop33o hG ⟨cs, c1, c2⟩ (x3 := x3) (o3 := o3) (prot := prot) d (v + 1) _ r1 o1 H1 (by omega) y2 y3 y4
    refine ⟨r2, o2, H', ?_, z2, z3, z4⟩
    obtain ⟨_, _, rfl⟩ := c1.len
    obtain ⟨_, _, rfl⟩ := hO.x3.len
    obtain ⟨_, _, rfl⟩ := c4.len
    exact lp_next (f23_L0_0 (by omega) d1 d2 y1 (fit64 (by omega) (by omega))) z1
theorem loop33s {H0 H : AHeap} {x3 : Value} {N : Nat} (h5 : N ≤ 512) {r : Nat → Value} {o : Nat → Option Nat} {o3 prot B : Nat} {T : Nat → List Nat} (hO : Out B H x3 N r o o3 T) (hs : ∀ j, Ris (T j)) (hb : ∀ j, (T j).length ≤ 1048576) : ∀ (d i : Nat), i + d = N →
    lpInf (lpOf cfg a23 2 prot H0) ([x3, x3, .int .i64 N, .int .i64 i], H) = some (.exit 4, [x3], H)
  | 0, i, hi => by
    obtain ⟨_, _, rfl⟩ := hO.x3.len
    exact lp_last (f23_L2_1 (by omega))
  | d + 1, i, hi => by
    have hil : i < N := by omega
    obtain ⟨id, e, a1, a2⟩ := own_at T22 hO.x3 (range_at r hil)
    have h45 := c45 (hs i) (by have := hb i; omega) H0.length (hO.rx i hil).rd
    have ih := loop33s h5 (H0 := H0) (prot := prot) hO hs hb d (i + 1) (by omega)
    have hrl := (hO.rx i hil).len
    obtain ⟨_, _, rfl⟩ := hO.x3.len
    obtain ⟨_, _, hre⟩ := hrl
    rw [hre] at a2 h45
    exact lp_next (f23_L2_0 (by omega) a1 a2 h45 (fit64 (by omega) (by omega))) ih
/-- Lists of lists, each of one's own. -/
structure Mine (B : Nat) (H : AHeap) (x : Value) (N : Nat) (T : Nat → List Nat) : Prop where
  ex : (∃ r o o3, Out B H x N r o o3 T) ∨ (N = 0 ∧ ∃ id, x = .slice (some ⟨id, 0, some 0⟩) 0 0 ∧ B ≤ id ∧ H[id]? = some (.cells [] 24 0 .row))
theorem Mine.stay {B : Nat} {H H' : AHeap} {x : Value} {N : Nat} {T : Nat → List Nat} (h : Mine B H x N T) (s : Stay none H H') : Mine B H' x N T := by
  rcases h.ex with ⟨r, o, o3, h⟩ | ⟨h0, id, h1, h2, h3⟩
  · exact ⟨.inl ⟨r, o, o3, h.x3.stay s (fun _ _ e => by cases e), fun j hj => (h.rx j hj).stay s (fun _ _ e => by cases e), h.b3, h.bo, h.dis⟩⟩
  · exact ⟨.inr ⟨h0, id, h1, h2, by rw [s.2 id (List.getElem?_eq_some_iff.1 h3).1 (by simp)]; exact h3⟩⟩
theorem Mine.rd {B : Nat} {H : AHeap} {x : Value} {N : Nat} {T : Nat → List Nat} (h : Mine B H x N T) : ∃ cs, Rd H 24 1 x N cs ∧ ∀ j, j < N → ∃ r, cs[j]? = some r ∧ Rd H 3 1 r (T j).length (il (nl (T j))) := by
  rcases h.ex with ⟨r, o, o3, h⟩ | ⟨h0, id, h1, h2, h3⟩
  · exact ⟨_, h.x3.rd, fun j hj => ⟨r j, range_at r hj, (h.rx j hj).rd⟩⟩
  · subst h0; subst h1
    exact ⟨[], ⟨rfl, .inr ⟨id, 0, 0, .row, 0, [], rfl, Nat.le_refl _, Nat.le_refl _, Nat.le_refl _, h3, rfl⟩⟩, fun j hj => by omega⟩
theorem Mine.weak {B C : Nat} {H : AHeap} {x : Value} {N : Nat} {T : Nat → List Nat} (h : Mine B H x N T) (hc : C ≤ B) : Mine C H x N T := by
  rcases h.ex with ⟨r, o, o3, h⟩ | ⟨h0, id, h1, h2, h3⟩
  · exact ⟨.inl ⟨r, o, o3, h.x3, h.rx, Nat.le_trans hc h.b3, fun j hj a ha => Nat.le_trans hc (h.bo j hj a ha), h.dis⟩⟩
  · exact ⟨.inr ⟨h0, id, h1, Nat.le_trans hc h2, h3⟩⟩
theorem out_start {N : Nat} (hN : 0 < N) (H : AHeap) : Out H.length (H ++ [.cells (repCells [.slice none 0 0] N) 24 (repCells [.slice none 0 0] N).length .row]) (.slice (some ⟨H.length, 0, some (N * 1)⟩) N N) N (fun _ => .slice none 0 0) (fun _ => none) H.length (fun _ => []) := by
  have h := own_mk (e := 24) hN H (.slice none 0 0)
  refine ⟨?_, fun j hj => own_nil, Nat.le_refl _, fun j hj a ha => (by cases ha), fun i j hi hj hne a ha => (by cases ha)⟩
  have e : List.replicate N (Value.slice none 0 0) = (List.range N).map (fun _ => Value.slice none 0 0) := by
    rw [List.map_const', List.length_range]
  rw [← e]
  exact h
/-- Lists that are not all nil are not plain; if all are nil, they are copied. -/
theorem gc_mine {H H1 : AHeap} {x : Value} {N : Nat} {T : Nat → List Nat} (hm : Mine H.length H1 x N T) (hst : Stay none H H1) {ps : List Value} (hps : ps.all plain1 = true) :
    ∃ x' H', gc H (x :: ps) H1 = (tupled (x' :: ps), H') ∧ Mine H.length H' x' N T ∧ Stay none H H' := by
  rcases hm.ex with ⟨r, o, o3, h⟩ | ⟨h0, id, h1, h2, h3⟩
  · by_cases hp : ((List.range N).map r).all plain0 = true
    · obtain ⟨x', o', H', g1, g2, g3, g4, g5⟩ := gc_row (H := H) h.x3 (fun id e => by cases e; exact h.b3) hp hps
      have hN : 0 < N := h.x3.2.1
      cases ho' : o' with
      | none => rw [ho'] at g2; have := g2.2.1; omega
      | some o4 =>
        rw [ho'] at g2 g4
        refine ⟨x', H', g1, ⟨.inl ⟨r, o, o4, g2, fun j hj => ?_, g4 o4 rfl, h.bo, h.dis⟩⟩, g3⟩
        have hj2 := h.rx j hj
        have hpl := List.all_eq_true.1 hp (r j) (List.mem_map.2 ⟨j, List.mem_range.2 hj, rfl⟩)
        cases hoj : o j with
        | none => rw [hoj] at hj2; exact hj2
        | some a =>
          rw [hoj] at hj2
          rw [hj2.2.2.1] at hpl
          cases hpl
    · refine ⟨x, H1, ?_, hm, hst⟩
      have hp : ((List.range N).map r).all plain0 = false := by simpa using hp
      obtain ⟨hl, hn, hx, wr, hwr, hH⟩ := h.x3
      have hk : keepAll H.length H1 (x :: ps) [] = none := by
        rw [hx]
        simp only [keepAll, keep1]
        split
        · rfl
        · rw [hH]
          simp [hp]
      unfold gc
      rw [hk]
      have hnd : noDup (sliceIds (x :: ps)) = true := by
        rw [hx]
        simp [sliceIds, sliceIds_plain ps hps, noDup]
      rw [if_pos hnd]
  · subst h0; subst h1
    refine ⟨.slice (some ⟨H.length, 0, some 0⟩) 0 0, H ++ [.cells [] 24 0 .row], ?_, ⟨.inr ⟨rfl, H.length, rfl, Nat.le_refl _, append_get.1⟩⟩, Stay.app none H _⟩
    unfold gc
    simp only [gcHeap]
    simp only [sliceIds, sliceIds_plain ps hps, noDup, List.contains_nil, Bool.not_false, Bool.and_self, if_true, keepAll, keep1]
    rw [if_neg (by omega), h3]
    simp only
    rw [if_pos ⟨rfl, by simp⟩, Option.bind_some, keepAll_plain ps _ hps]
    simp

theorem c33 {G : List (List Int)} (hG : Good G) (hE : lens G ≤ 1048576) {vG : Value} (prot : Nat) {H : AHeap} (hg : Gr H vG G) : ∃ x' H', callInf cfg 23 [vG] prot H = some (x', H') ∧ Mine H.length H' x' G.length (turnT G) ∧ Stay none H H' := by
  have h5 := hG.1
  obtain ⟨HA, hHA⟩ : ∃ HA, HA = H ++ [AObj.cells (repCells [.slice none 0 0] G.length) 24 (repCells [.slice none 0 0] G.length).length .row] := ⟨_, rfl⟩
  have sA : Stay none H HA := by rw [hHA]; exact Stay.app none H _
  have key : ∃ x1 H1 H2, lpInf (lpOf cfg a23 0 prot H) ([.slice (some ⟨H.length, 0, some (G.length * 1)⟩) G.length G.length, vG, .int .i64 G.length, .int .i64 0], HA) = some (.exit 0, [x1], H1) ∧ lpInf (lpOf cfg a23 2 prot H) ([x1, x1, .int .i64 G.length, .int .i64 0], H1) = some (.exit 4, [x1], H2) ∧ Mine H.length H2 x1 G.length (turnT G) ∧ Stay none H H2 := by
    by_cases h0 : 0 < G.length
    · have hO := out_start h0 H
      rw [← hHA] at hO
      obtain ⟨r', o', H1, z1, z2, z3, z4⟩ := loop33o hG hg (prot := prot) G.length 0 _ _ _ HA (by omega) hO sA (fun j => by simpa [lens] using hE)
      have hs := loop33s h5 (H0 := H) (prot := prot) z2 (turn_ris G) z4 G.length 0 (by omega)
      exact ⟨_, H1, H1, z1, hs, ⟨.inl ⟨r', o', _, z2⟩⟩, z3⟩
    · have hn : G = [] := List.eq_nil_of_length_eq_zero (by omega)
      subst hn
      obtain ⟨_, _, rfl⟩ := hg.len
      refine ⟨_, HA, HA, lp_last (f23_L0_1 (by decide)), lp_last (f23_L2_1 (by decide)), ⟨.inr ⟨rfl, H.length, rfl, Nat.le_refl _, ?_⟩⟩, sA⟩
      rw [hHA]
      exact append_get.1
  obtain ⟨x1, H1, H2, y1, y2, y3, y4⟩ := key
  obtain ⟨x', H', g1, g2, g3⟩ := gc_mine y3 y4 (ps := []) rfl
  refine ⟨x', H', ?_, g2, g3⟩
  obtain ⟨_, hx1, _⟩ := y3.rd
  obtain ⟨_, _, hxe⟩ := hx1.len
  obtain ⟨_, _, rfl⟩ := hg.len
  subst hxe
  subst hHA
  exact f23_F_0 _ _ (by omega) rfl (by omega) (by omega) y1 y2 (by rw [pfin_eq, if_neg (by simp [a23])]; exact g1)
/-- No list is longer than there are edges. -/
theorem goRow_len {v : Nat} : ∀ (l : List Nat) (T : Nat → List Nat) (j : Nat), (goRow v l T j).length ≤ (T j).length + l.length
  | [], T, j => by simp [goRow]
  | u :: l, T, j => by
    have h1 := goRow_len (v := v) l (addE T u v) j
    have h2 := addE_len (T := T) (u := u) (v := v) (j := j)
    rw [goRow, List.length_cons]
    omega
theorem goAll_len {G : List (List Int)} : ∀ (d v : Nat) (T : Nat → List Nat) (j : Nat), v + d = G.length → (goAll G d v T j).length ≤ (T j).length + lens (G.drop v)
  | 0, v, T, j, _ => by simp [goAll]
  | d + 1, v, T, j, hv => by
    have hvl : v < G.length := by omega
    have h1 := goAll_len (G := G) d (v + 1) (goRow v (sc G v) T) j (by omega)
    have h2 := goRow_len (v := v) (sc G v) T j
    have h3 := sc_len hvl
    have hsplit : lens (G.drop v) = G[v].length + lens (G.drop (v + 1)) := by
      unfold lens
      rw [List.drop_eq_getElem_cons hvl, List.map_cons, List.sum_cons]
    rw [goAll]
    omega
theorem turn_len {G : List (List Int)} (j : Nat) : (turnT G j).length ≤ lens G := by
  have := goAll_len (G := G) G.length 0 (fun _ => []) j (by omega)
  simpa [turnT] using this
theorem turn_len0 {G : List (List Int)} (j : Nat) : (turnT G j).length ≤ lens G := turn_len j
end Go.Proofs.YtkemihfaohkoeaaDoor.Am11d
set_option linter.unusedVariables false
open Go Go.Proofs.YtkemihfaohkoeaaDoor.Am
namespace Go.Proofs.YtkemihfaohkoeaaDoor.Am11d
theorem f6_F_0 {x0a : Option Addr} {x0n x0c : Nat} {x1 x2 : Int} {H : AHeap} {prot : Nat} {x22 : Int} (h1 : callInf cfg 22 [Value.slice x0a x0n x0c] (List.length H) H = some (Value.int .i64 x22, H)) (h2 : (x22 != 0) = true) : callInf cfg 6 [.slice x0a x0n x0c, .int .i64 x1, .int .i64 x2] prot H = some (Value.tuple { toList := [Value.slice none 0 0, Value.bool false, Value.int .i64 x22] }, H) :=
  fn_of2 a6 [.v (.int .i64 x22), .e, .b true] (ai h1 (ai h2 (Eq.refl ((Value.tuple { toList := [Value.slice none 0 0, Value.bool false, Value.int .i64 x22] }, H) : Value × AHeap)))) (by kernel_rfl) rfl
theorem f6_F_1 {x0a : Option Addr} {x0n x0c : Nat} {x1 x2 : Int} {H : AHeap} {prot : Nat} {x22 : Int} (h1 : callInf cfg 22 [Value.slice x0a x0n x0c] (List.length H) H = some (Value.int .i64 x22, H)) (h2 : (x22 != 0) = false) (h3 : x1 < 0) : callInf cfg 6 [.slice x0a x0n x0c, .int .i64 x1, .int .i64 x2] prot H = some (Value.tuple { toList := [Value.slice none 0 0, Value.bool false, Value.int .i64 3] }, H) :=
  fn_of2 a6 [.v (.int .i64 x22), .e, .b false, .e, .b true, .b true, .b true, .b true, .b true, .b true, .b true, .b true, .b true, .b true, .b true, .b true, .b true, .b true] (ai h1 (ai h2 (ai (decide_eq_true h3) (ai (decide_eq_true h3) (ai (decide_eq_true h3) (ai (decide_eq_true h3) (ai (decide_eq_true h3) (ai (Eq.refl true) (ai (Eq.refl true) (ai (Eq.refl true) (ai (Eq.refl true) (ai (Eq.refl true) (ai (Eq.refl true) (ai (Eq.refl true) (ai (Eq.refl true) (ai (Eq.refl true) (Eq.refl ((Value.tuple { toList := [Value.slice none 0 0, Value.bool false, Value.int .i64 3] }, H) : Value × AHeap)))))))))))))))))) (by kernel_rfl) rfl
theorem f6_F_2 {x0a : Option Addr} {x0n x0c : Nat} {x1 x2 : Int} {H : AHeap} {prot : Nat} {x22 : Int} (h1 : callInf cfg 22 [Value.slice x0a x0n x0c] (List.length H) H = some (Value.int .i64 x22, H)) (h2 : (x22 != 0) = false) (h3 : ¬(x1 < 0)) (h4 : x1 ≥ (↑x0n : Int)) : callInf cfg 6 [.slice x0a x0n x0c, .int .i64 x1, .int .i64 x2] prot H = some (Value.tuple { toList := [Value.slice none 0 0, Value.bool false, Value.int .i64 3] }, H) :=
  fn_of2 a6 [.v (.int .i64 x22), .e, .b false, .e, .b false, .b false, .b false, .e, .b false, .e, .b false, .b true, .b true, .b true, .b true, .b true, .b true, .b true, .b true, .b true] (ai h1 (ai h2 (ai (decide_eq_false h3) (ai (decide_eq_false h3) (ai (decide_eq_false h3) (ai (decide_eq_false h3) (ai (decide_eq_false h3) (ai (decide_eq_true h4) (ai (decide_eq_true h4) (ai (decide_eq_true h4) (ai (Eq.refl true) (ai (Eq.refl true) (ai (Eq.refl true) (ai (Eq.refl true) (ai (Eq.refl true) (ai (Eq.refl true) (Eq.refl ((Value.tuple { toList := [Value.slice none 0 0, Value.bool false, Value.int .i64 3] }, H) : Value × AHeap)))))))))))))))))) (by kernel_rfl) rfl
theorem f6_F_3 {x0a : Option Addr} {x0n x0c : Nat} {x1 x2 : Int} {H : AHeap} {prot : Nat} {x22 : Int} (h1 : callInf cfg 22 [Value.slice x0a x0n x0c] (List.length H) H = some (Value.int .i64 x22, H)) (h2 : (x22 != 0) = false) (h3 : ¬(x1 < 0)) (h4 : ¬(x1 ≥ (↑x0n : Int))) (h5 : x2 < 0) : callInf cfg 6 [.slice x0a x0n x0c, .int .i64 x1, .int .i64 x2] prot H = some (Value.tuple { toList := [Value.slice none 0 0, Value.bool false, Value.int .i64 3] }, H) :=
  fn_of2 a6 [.v (.int .i64 x22), .e, .b false, .e, .b false, .b false, .b false, .e, .b false, .e, .b false, .b false, .b false, .e, .b false, .b true, .b true, .b true, .b true, .b true, .b true] (ai h1 (ai h2 (ai (decide_eq_false h3) (ai (decide_eq_false h3) (ai (decide_eq_false h3) (ai (decide_eq_false h3) (ai (decide_eq_false h3) (ai (decide_eq_false h4) (ai (decide_eq_false h4) (ai (decide_eq_false h4) (ai (decide_eq_true h5) (ai (decide_eq_true h5) (ai (decide_eq_true h5) (ai (decide_eq_true h5) (ai (decide_eq_true h5) (ai (Eq.refl true) (Eq.refl ((Value.tuple { toList := [Value.slice none 0 0, Value.bool false, Value.int .i64 3] }, H) : Value × AHeap)))))))))))))))))) (by kernel_rfl) rfl
theorem f6_F_4 {x0a : Option Addr} {x0n x0c : Nat} {x1 x2 : Int} {H : AHeap} {prot : Nat} {x22 : Int} (h1 : callInf cfg 22 [Value.slice x0a x0n x0c] (List.length H) H = some (Value.int .i64 x22, H)) (h2 : (x22 != 0) = false) (h3 : ¬(x1 < 0)) (h4 : ¬(x1 ≥ (↑x0n : Int))) (h5 : ¬(x2 < 0)) (h6 : x2 ≥ (↑x0n : Int)) : callInf cfg 6 [.slice x0a x0n x0c, .int .i64 x1, .int .i64 x2] prot H = some (Value.tuple { toList := [Value.slice none 0 0, Value.bool false, Value.int .i64 3] }, H) :=
  fn_of2 a6 [.v (.int .i64 x22), .e, .b false, .e, .b false, .b false, .b false, .e, .b false, .e, .b false, .b false, .b false, .e, .b false, .b false, .b false, .b false, .e, .b false, .e, .b false, .b true] (ai h1 (ai h2 (ai (decide_eq_false h3) (ai (decide_eq_false h3) (ai (decide_eq_false h3) (ai (decide_eq_false h3) (ai (decide_eq_false h3) (ai (decide_eq_false h4) (ai (decide_eq_false h4) (ai (decide_eq_false h4) (ai (decide_eq_false h5) (ai (decide_eq_false h5) (ai (decide_eq_false h5) (ai (decide_eq_false h5) (ai (decide_eq_false h5) (ai (decide_eq_true h6) (Eq.refl ((Value.tuple { toList := [Value.slice none 0 0, Value.bool false, Value.int .i64 3] }, H) : Value × AHeap)))))))))))))))))) (by kernel_rfl) rfl
theorem f6_F_5 {x0a : Option Addr} {x0n x0c : Nat} {x1 x2 : Int} {H : AHeap} {prot : Nat} {x22 : Int} {x49p x49o x49l : Nat} {H1 : AHeap} {x51a : Option Addr} {x51n x51c : Nat} {H2 : AHeap} {z0a : Option Addr} {z0n z0c : Nat} {z1 z2 : Int} {z10a : Option Addr} {z10n z10c : Nat} {H3 : AHeap} {x101p x101o x101l : Nat} {x102 : Int} (h1 : callInf cfg 22 [Value.slice x0a x0n x0c] (List.length H) H = some (Value.int .i64 x22, H)) (h2 : (x22 != 0) = false) (h3 : ¬(x1 < 0)) (h4 : ¬(x1 ≥ (↑x0n : Int))) (h5 : ¬(x2 < 0)) (h6 : ¬(x2 ≥ (↑x0n : Int))) (h7 : 0 ≤ (↑x0n : Int)) (h8 : (↑x0n : Int) = (↑x0n : Int)) (h9 : (↑x0n : Int) ≤ 9223372036854775807) (h10 : (↑8 : Int) * (↑x0n : Int) ≤ 2 ^ 48) (h11 : aindexAddr cfg.P 24 (Value.slice (some ⟨List.length H, 0, some ((↑x0n : Int).toNat * 1)⟩) (↑x0n : Int).toNat (↑x0n : Int).toNat) (Value.int .i64 x2) = some (Value.pointer (some ⟨x49p, x49o, some x49l⟩))) (h12 : [Value.int .i64 1].length = 1) (h13 : setCells (H ++ [AObj.cells (repCells [Value.int .i64 0] (↑x0n : Int).toNat) 3 (repCells [Value.int .i64 0] (↑x0n : Int).toNat).length OMode.row]) (List.length H) x49p x49l x49o [Value.int .i64 1] = some H1) (h14 : callInf cfg 23 [Value.slice x0a x0n x0c] (List.length H) H1 = some (Value.slice x51a x51n x51c, H2)) (h15 : lpInf (lpOf cfg a6 0 prot H) ([Value.slice x0a x0n x0c, Value.int .i64 x1, Value.int .i64 x2, Value.slice (some ⟨List.length H, 0, some ((↑x0n : Int).toNat * 1)⟩) (↑x0n : Int).toNat (↑x0n : Int).toNat, Value.slice x51a x51n x51c, Value.slice (some ⟨List.length H2, 0, some (1 * 1)⟩) 1 1, Value.int .i64 0], H2 ++ [wo [Value.int .i64 x2] 3]) = some (Ex.exit 0, [Value.slice z0a z0n z0c, Value.int .i64 z1, Value.int .i64 z2, Value.slice z10a z10n z10c], H3)) (h16 : aindexAddr cfg.P 24 (Value.slice z10a z10n z10c) (Value.int .i64 z1) = some (Value.pointer (some ⟨x101p, x101o, some x101l⟩))) (h17 : getCells H3 x101p x101l x101o 1 = some [Value.int .i64 x102]) (h18 : (x102 == 0) = true) : callInf cfg 6 [.slice x0a x0n x0c, .int .i64 x1, .int .i64 x2] prot H = some (Value.tuple { toList := [Value.slice none 0 0, Value.bool false, Value.int .i64 0] }, H) :=
  fn_of2 a6 [.v (.int .i64 x22), .e, .b false, .e, .b false, .b false, .b false, .e, .b false, .e, .b false, .b false, .b false, .e, .b false, .b false, .b false, .b false, .e, .b false, .e, .b false, .b false, .e, .e, .v (.pointer (some ⟨x49p, x49o, some x49l⟩)), .h H1, .r (.slice x51a x51n x51c) H2, .e, .lo (.exit 0, [.slice z0a z0n z0c, .int .i64 z1, .int .i64 z2, .slice z10a z10n z10c], H3), .v (.pointer (some ⟨x101p, x101o, some x101l⟩)), .v (.int .i64 x102), .e, .b true] (ai h1 (ai h2 (ai (decide_eq_false h3) (ai (decide_eq_false h3) (ai (decide_eq_false h3) (ai (decide_eq_false h3) (ai (decide_eq_false h3) (ai (decide_eq_false h4) (ai (decide_eq_false h4) (ai (decide_eq_false h4) (ai (decide_eq_false h5) (ai (decide_eq_false h5) (ai (decide_eq_false h5) (ai (decide_eq_false h5) (ai (decide_eq_false h5) (ai (decide_eq_false h6) (ai h7 (ai h8 (ai h9 (ai h10 (ai h11 (ai h12 (ai h13 (ai h14 (ai h15 (ai h16 (ai h17 (ai h18 (Eq.refl ((Value.tuple { toList := [Value.slice none 0 0, Value.bool false, Value.int .i64 0] }, H) : Value × AHeap)))))))))))))))))))))))))))))) (by kernel_rfl) rfl
theorem f6_F_6 {x0a : Option Addr} {x0n x0c : Nat} {x1 x2 : Int} {H : AHeap} {prot : Nat} {x22 : Int} {x49p x49o x49l : Nat} {H1 : AHeap} {x51a : Option Addr} {x51n x51c : Nat} {H2 : AHeap} {z0a : Option Addr} {z0n z0c : Nat} {z1 z2 : Int} {z10a : Option Addr} {z10n z10c : Nat} {H3 : AHeap} {x101p x101o x101l : Nat} {x102 : Int} {z16a : Option Addr} {z16n z16c : Nat} {H4 : AHeap} (rv : Value) (rH : AHeap) (h1 : callInf cfg 22 [Value.slice x0a x0n x0c] (List.length H) H = some (Value.int .i64 x22, H)) (h2 : (x22 != 0) = false) (h3 : ¬(x1 < 0)) (h4 : ¬(x1 ≥ (↑x0n : Int))) (h5 : ¬(x2 < 0)) (h6 : ¬(x2 ≥ (↑x0n : Int))) (h7 : 0 ≤ (↑x0n : Int)) (h8 : (↑x0n : Int) = (↑x0n : Int)) (h9 : (↑x0n : Int) ≤ 9223372036854775807) (h10 : (↑8 : Int) * (↑x0n : Int) ≤ 2 ^ 48) (h11 : aindexAddr cfg.P 24 (Value.slice (some ⟨List.length H, 0, some ((↑x0n : Int).toNat * 1)⟩) (↑x0n : Int).toNat (↑x0n : Int).toNat) (Value.int .i64 x2) = some (Value.pointer (some ⟨x49p, x49o, some x49l⟩))) (h12 : [Value.int .i64 1].length = 1) (h13 : setCells (H ++ [AObj.cells (repCells [Value.int .i64 0] (↑x0n : Int).toNat) 3 (repCells [Value.int .i64 0] (↑x0n : Int).toNat).length OMode.row]) (List.length H) x49p x49l x49o [Value.int .i64 1] = some H1) (h14 : callInf cfg 23 [Value.slice x0a x0n x0c] (List.length H) H1 = some (Value.slice x51a x51n x51c, H2)) (h15 : lpInf (lpOf cfg a6 0 prot H) ([Value.slice x0a x0n x0c, Value.int .i64 x1, Value.int .i64 x2, Value.slice (some ⟨List.length H, 0, some ((↑x0n : Int).toNat * 1)⟩) (↑x0n : Int).toNat (↑x0n : Int).toNat, Value.slice x51a x51n x51c, Value.slice (some ⟨List.length H2, 0, some (1 * 1)⟩) 1 1, Value.int .i64 0], H2 ++ [wo [Value.int .i64 x2] 3]) = some (Ex.exit 0, [Value.slice z0a z0n z0c, Value.int .i64 z1, Value.int .i64 z2, Value.slice z10a z10n z10c], H3)) (h16 : aindexAddr cfg.P 24 (Value.slice z10a z10n z10c) (Value.int .i64 z1) = some (Value.pointer (some ⟨x101p, x101o, some x101l⟩))) (h17 : getCells H3 x101p x101l x101o 1 = some [Value.int .i64 x102]) (h18 : (x102 == 0) = false) (h19 : lpInf (lpOf cfg a6 2 prot H) ([Value.slice z0a z0n z0c, Value.int .i64 z2, Value.slice z10a z10n z10c, Value.slice (some ⟨List.length H3, 0, some (1 * 1)⟩) 1 1, Value.int .i64 z1], H3 ++ [wo [Value.int .i64 z1] 3]) = some (Ex.exit 4, [Value.slice z16a z16n z16c], H4)) (h20 : pfin a6 H [Value.slice z16a z16n z16c, Value.bool true, Value.int .i64 0] H4 = (rv, rH)) : callInf cfg 6 [.slice x0a x0n x0c, .int .i64 x1, .int .i64 x2] prot H = some (rv, rH) :=
  fn_of2 a6 [.v (.int .i64 x22), .e, .b false, .e, .b false, .b false, .b false, .e, .b false, .e, .b false, .b false, .b false, .e, .b false, .b false, .b false, .b false, .e, .b false, .e, .b false, .b false, .e, .e, .v (.pointer (some ⟨x49p, x49o, some x49l⟩)), .h H1, .r (.slice x51a x51n x51c) H2, .e, .lo (.exit 0, [.slice z0a z0n z0c, .int .i64 z1, .int .i64 z2, .slice z10a z10n z10c], H3), .v (.pointer (some ⟨x101p, x101o, some x101l⟩)), .v (.int .i64 x102), .e, .b false, .e, .lo (.exit 4, [.slice z16a z16n z16c], H4)] (ai h1 (ai h2 (ai (decide_eq_false h3) (ai (decide_eq_false h3) (ai (decide_eq_false h3) (ai (decide_eq_false h3) (ai (decide_eq_false h3) (ai (decide_eq_false h4) (ai (decide_eq_false h4) (ai (decide_eq_false h4) (ai (decide_eq_false h5) (ai (decide_eq_false h5) (ai (decide_eq_false h5) (ai (decide_eq_false h5) (ai (decide_eq_false h5) (ai (decide_eq_false h6) (ai h7 (ai h8 (ai h9 (ai h10 (ai h11 (ai h12 (ai h13 (ai h14 (ai h15 (ai h16 (ai h17 (ai h18 (ai h19 h20))))))))))))))))))))))))))))) (by kernel_rfl) rfl
theorem f6_L0_0 {x0a : Option Addr} {x0n x0c : Nat} {x1 x2 : Int} {x10a : Option Addr} {x10n x10c : Nat} {x11a : Option Addr} {x11n x11c : Nat} {x12a : Option Addr} {x12n x12c : Nat} {x13 : Int} {H0 : AHeap} {prot : Nat} {H : AHeap} {x63p x63o x63l : Nat} {x64 : Int} {x65p x65o x65l : Nat} {x66a : Option Addr} {x66n x66c : Nat} {z0a : Option Addr} {z0n z0c : Nat} {z1 z2 : Int} {z10a : Option Addr} {z10n z10c : Nat} {z11a : Option Addr} {z11n z11c : Nat} {z12a : Option Addr} {z12n z12c : Nat} {z13 : Int} {H2 : AHeap} {x95p x95o x95l : Nat} {x96 : Int} (h1 : x13 < (↑x12n : Int)) (h2 : aindexAddr cfg.P 24 (Value.slice x12a x12n x12c) (Value.int .i64 x13) = some (Value.pointer (some ⟨x63p, x63o, some x63l⟩))) (h3 : getCells H x63p x63l x63o 1 = some [Value.int .i64 x64]) (h4 : aindexAddr cfg.P 22 (Value.slice x11a x11n x11c) (Value.int .i64 x64) = some (Value.pointer (some ⟨x65p, x65o, some x65l⟩))) (h5 : getCells H x65p x65l x65o 1 = some [Value.slice x66a x66n x66c]) (h6 : lpInf (lpOf cfg a6 1 prot H0) ([Value.slice x0a x0n x0c, Value.int .i64 x1, Value.int .i64 x2, Value.slice x10a x10n x10c, Value.slice x11a x11n x11c, Value.slice x12a x12n x12c, Value.int .i64 x13, Value.slice x66a x66n x66c, Value.int .i64 (↑x66n : Int), Value.int .i64 0], H) = some (Ex.exit 2, [Value.slice z0a z0n z0c, Value.int .i64 z1, Value.int .i64 z2, Value.slice z10a z10n z10c, Value.slice z11a z11n z11c, Value.slice z12a z12n z12c, Value.int .i64 z13], H2)) (h7 : aindexAddr cfg.P 24 (Value.slice z12a z12n z12c) (Value.int .i64 z13) = some (Value.pointer (some ⟨x95p, x95o, some x95l⟩))) (h8 : getCells H2 x95p x95l x95o 1 = some [Value.int .i64 x96]) (h9 : (x96 == z1) = true) : lpOf cfg a6 0 prot H0 ([.slice x0a x0n x0c, .int .i64 x1, .int .i64 x2, .slice x10a x10n x10c, .slice x11a x11n x11c, .slice x12a x12n x12c, .int .i64 x13], H) = some (Sum.inr (Ex.exit 0, [Value.slice z0a z0n z0c, Value.int .i64 z1, Value.int .i64 z2, Value.slice z10a z10n z10c], H2)) :=
  lp_of2 [.e, .e, .b true, .v (.pointer (some ⟨x63p, x63o, some x63l⟩)), .v (.int .i64 x64), .v (.pointer (some ⟨x65p, x65o, some x65l⟩)), .v (.slice x66a x66n x66c), .e, .lo (.exit 2, [.slice z0a z0n z0c, .int .i64 z1, .int .i64 z2, .slice z10a z10n z10c, .slice z11a z11n z11c, .slice z12a z12n z12c, .int .i64 z13], H2), .v (.pointer (some ⟨x95p, x95o, some x95l⟩)), .v (.int .i64 x96), .e, .b true] (ai (decide_eq_true h1) (ai h2 (ai h3 (ai h4 (ai h5 (ai h6 (ai h7 (ai h8 (ai h9 (Eq.refl (Sum.inr (Ex.exit 0, [Value.slice z0a z0n z0c, Value.int .i64 z1, Value.int .i64 z2, Value.slice z10a z10n z10c], H2) : LS ⊕ LO))))))))))) (by kernel_rfl)
theorem f6_L0_1 {x0a : Option Addr} {x0n x0c : Nat} {x1 x2 : Int} {x10a : Option Addr} {x10n x10c : Nat} {x11a : Option Addr} {x11n x11c : Nat} {x12a : Option Addr} {x12n x12c : Nat} {x13 : Int} {H0 : AHeap} {prot : Nat} {H : AHeap} {x63p x63o x63l : Nat} {x64 : Int} {x65p x65o x65l : Nat} {x66a : Option Addr} {x66n x66c : Nat} {z0a : Option Addr} {z0n z0c : Nat} {z1 z2 : Int} {z10a : Option Addr} {z10n z10c : Nat} {z11a : Option Addr} {z11n z11c : Nat} {z12a : Option Addr} {z12n z12c : Nat} {z13 : Int} {H2 : AHeap} {x95p x95o x95l : Nat} {x96 : Int} (h1 : x13 < (↑x12n : Int)) (h2 : aindexAddr cfg.P 24 (Value.slice x12a x12n x12c) (Value.int .i64 x13) = some (Value.pointer (some ⟨x63p, x63o, some x63l⟩))) (h3 : getCells H x63p x63l x63o 1 = some [Value.int .i64 x64]) (h4 : aindexAddr cfg.P 22 (Value.slice x11a x11n x11c) (Value.int .i64 x64) = some (Value.pointer (some ⟨x65p, x65o, some x65l⟩))) (h5 : getCells H x65p x65l x65o 1 = some [Value.slice x66a x66n x66c]) (h6 : lpInf (lpOf cfg a6 1 prot H0) ([Value.slice x0a x0n x0c, Value.int .i64 x1, Value.int .i64 x2, Value.slice x10a x10n x10c, Value.slice x11a x11n x11c, Value.slice x12a x12n x12c, Value.int .i64 x13, Value.slice x66a x66n x66c, Value.int .i64 (↑x66n : Int), Value.int .i64 0], H) = some (Ex.exit 2, [Value.slice z0a z0n z0c, Value.int .i64 z1, Value.int .i64 z2, Value.slice z10a z10n z10c, Value.slice z11a z11n z11c, Value.slice z12a z12n z12c, Value.int .i64 z13], H2)) (h7 : aindexAddr cfg.P 24 (Value.slice z12a z12n z12c) (Value.int .i64 z13) = some (Value.pointer (some ⟨x95p, x95o, some x95l⟩))) (h8 : getCells H2 x95p x95l x95o 1 = some [Value.int .i64 x96]) (h9 : (x96 == z1) = false) (h10 : Fit .i64 (z13 + 1)) : lpOf cfg a6 0 prot H0 ([.slice x0a x0n x0c, .int .i64 x1, .int .i64 x2, .slice x10a x10n x10c, .slice x11a x11n x11c, .slice x12a x12n x12c, .int .i64 x13], H) = some (Sum.inl ([Value.slice z0a z0n z0c, Value.int .i64 z1, Value.int .i64 z2, Value.slice z10a z10n z10c, Value.slice z11a z11n z11c, Value.slice z12a z12n z12c, Value.int .i64 (z13 + 1)], H2)) :=
  lp_of2 [.e, .e, .b true, .v (.pointer (some ⟨x63p, x63o, some x63l⟩)), .v (.int .i64 x64), .v (.pointer (some ⟨x65p, x65o, some x65l⟩)), .v (.slice x66a x66n x66c), .e, .lo (.exit 2, [.slice z0a z0n z0c, .int .i64 z1, .int .i64 z2, .slice z10a z10n z10c, .slice z11a z11n z11c, .slice z12a z12n z12c, .int .i64 z13], H2), .v (.pointer (some ⟨x95p, x95o, some x95l⟩)), .v (.int .i64 x96), .e, .b false, .e] (ai (decide_eq_true h1) (ai h2 (ai h3 (ai h4 (ai h5 (ai h6 (ai h7 (ai h8 (ai h9 (ai h10 (Eq.refl (Sum.inl ([Value.slice z0a z0n z0c, Value.int .i64 z1, Value.int .i64 z2, Value.slice z10a z10n z10c, Value.slice z11a z11n z11c, Value.slice z12a z12n z12c, Value.int .i64 (z13 + 1)], H2) : LS ⊕ LO)))))))))))) (by kernel_rfl)
theorem f6_L0_2 {x0a : Option Addr} {x0n x0c : Nat} {x1 x2 : Int} {x10a : Option Addr} {x10n x10c : Nat} {x11a : Option Addr} {x11n x11c : Nat} {x12a : Option Addr} {x12n x12c : Nat} {x13 : Int} {H0 : AHeap} {prot : Nat} {H : AHeap} (h1 : ¬(x13 < (↑x12n : Int))) : lpOf cfg a6 0 prot H0 ([.slice x0a x0n x0c, .int .i64 x1, .int .i64 x2, .slice x10a x10n x10c, .slice x11a x11n x11c, .slice x12a x12n x12c, .int .i64 x13], H) = some (Sum.inr (Ex.exit 0, [Value.slice x0a x0n x0c, Value.int .i64 x1, Value.int .i64 x2, Value.slice x10a x10n x10c], H)) :=
  lp_of2 [.e, .e, .b false] (ai (decide_eq_false h1) (Eq.refl (Sum.inr (Ex.exit 0, [Value.slice x0a x0n x0c, Value.int .i64 x1, Value.int .i64 x2, Value.slice x10a x10n x10c], H) : LS ⊕ LO))) (by kernel_rfl)
theorem f6_L1_0 {x0a : Option Addr} {x0n x0c : Nat} {x1 x2 : Int} {x10a : Option Addr} {x10n x10c : Nat} {x11a : Option Addr} {x11n x11c : Nat} {x12a : Option Addr} {x12n x12c : Nat} {x13 : Int} {x66a : Option Addr} {x66n x66c : Nat} {x67 x68 : Int} {H0 : AHeap} {prot : Nat} {H : AHeap} {x70p x70o x70l : Nat} {x71 : Int} {x74p x74o x74l : Nat} {x75 : Int} {x82p x82o x82l : Nat} {x83 : Int} {x84p x84o x84l : Nat} {x85 : Int} {x87p x87o x87l : Nat} {H2 : AHeap} {x91a : Option Addr} {x91n x91c : Nat} {H3 : AHeap} (h1 : x68 < x67) (h2 : aindexAddr cfg.P 24 (Value.slice x66a x66n x66c) (Value.int .i64 x68) = some (Value.pointer (some ⟨x70p, x70o, some x70l⟩))) (h3 : getCells H x70p x70l x70o 1 = some [Value.int .i64 x71]) (h4 : aindexAddr cfg.P 24 (Value.slice x10a x10n x10c) (Value.int .i64 x71) = some (Value.pointer (some ⟨x74p, x74o, some x74l⟩))) (h5 : getCells H x74p x74l x74o 1 = some [Value.int .i64 x75]) (h6 : (x75 == 0) = true) (h7 : aindexAddr cfg.P 24 (Value.slice x12a x12n x12c) (Value.int .i64 x13) = some (Value.pointer (some ⟨x82p, x82o, some x82l⟩))) (h8 : getCells H x82p x82l x82o 1 = some [Value.int .i64 x83]) (h9 : aindexAddr cfg.P 24 (Value.slice x10a x10n x10c) (Value.int .i64 x83) = some (Value.pointer (some ⟨x84p, x84o, some x84l⟩))) (h10 : getCells H x84p x84l x84o 1 = some [Value.int .i64 x85]) (h11 : Fit .i64 (x85 + 1)) (h12 : aindexAddr cfg.P 24 (Value.slice x10a x10n x10c) (Value.int .i64 x71) = some (Value.pointer (some ⟨x87p, x87o, some x87l⟩))) (h13 : [Value.int .i64 (x85 + 1)].length = 1) (h14 : setCells H (List.length H0) x87p x87l x87o [Value.int .i64 (x85 + 1)] = some H2) (h15 : aappend cfg.P (List.length H0) true 24 24 (Value.slice x12a x12n x12c) (Value.slice (some ⟨List.length H2, 0, some (1 * 1)⟩) 1 1) (H2 ++ [wo [Value.int .i64 x71] 3]) = some (Value.slice x91a x91n x91c, H3)) (h16 : Fit .i64 (x68 + 1)) : lpOf cfg a6 1 prot H0 ([.slice x0a x0n x0c, .int .i64 x1, .int .i64 x2, .slice x10a x10n x10c, .slice x11a x11n x11c, .slice x12a x12n x12c, .int .i64 x13, .slice x66a x66n x66c, .int .i64 x67, .int .i64 x68], H) = some (Sum.inl ([Value.slice x0a x0n x0c, Value.int .i64 x1, Value.int .i64 x2, Value.slice x10a x10n x10c, Value.slice x11a x11n x11c, Value.slice x91a x91n x91c, Value.int .i64 x13, Value.slice x66a x66n x66c, Value.int .i64 x67, Value.int .i64 (x68 + 1)], H3)) :=
  lp_of2 [.e, .b true, .v (.pointer (some ⟨x70p, x70o, some x70l⟩)), .v (.int .i64 x71), .v (.pointer (some ⟨x74p, x74o, some x74l⟩)), .v (.int .i64 x75), .e, .b true, .v (.pointer (some ⟨x82p, x82o, some x82l⟩)), .v (.int .i64 x83), .v (.pointer (some ⟨x84p, x84o, some x84l⟩)), .v (.int .i64 x85), .e, .v (.pointer (some ⟨x87p, x87o, some x87l⟩)), .h H2, .e, .r (.slice x91a x91n x91c) H3, .e] (ai (decide_eq_true h1) (ai h2 (ai h3 (ai h4 (ai h5 (ai h6 (ai h7 (ai h8 (ai h9 (ai h10 (ai h11 (ai h12 (ai h13 (ai h14 (ai h15 (ai h16 (Eq.refl (Sum.inl ([Value.slice x0a x0n x0c, Value.int .i64 x1, Value.int .i64 x2, Value.slice x10a x10n x10c, Value.slice x11a x11n x11c, Value.slice x91a x91n x91c, Value.int .i64 x13, Value.slice x66a x66n x66c, Value.int .i64 x67, Value.int .i64 (x68 + 1)], H3) : LS ⊕ LO)))))))))))))))))) (by kernel_rfl)
theorem f6_L1_1 {x0a : Option Addr} {x0n x0c : Nat} {x1 x2 : Int} {x10a : Option Addr} {x10n x10c : Nat} {x11a : Option Addr} {x11n x11c : Nat} {x12a : Option Addr} {x12n x12c : Nat} {x13 : Int} {x66a : Option Addr} {x66n x66c : Nat} {x67 x68 : Int} {H0 : AHeap} {prot : Nat} {H : AHeap} {x70p x70o x70l : Nat} {x71 : Int} {x74p x74o x74l : Nat} {x75 : Int} (h1 : x68 < x67) (h2 : aindexAddr cfg.P 24 (Value.slice x66a x66n x66c) (Value.int .i64 x68) = some (Value.pointer (some ⟨x70p, x70o, some x70l⟩))) (h3 : getCells H x70p x70l x70o 1 = some [Value.int .i64 x71]) (h4 : aindexAddr cfg.P 24 (Value.slice x10a x10n x10c) (Value.int .i64 x71) = some (Value.pointer (some ⟨x74p, x74o, some x74l⟩))) (h5 : getCells H x74p x74l x74o 1 = some [Value.int .i64 x75]) (h6 : (x75 == 0) = false) (h7 : Fit .i64 (x68 + 1)) : lpOf cfg a6 1 prot H0 ([.slice x0a x0n x0c, .int .i64 x1, .int .i64 x2, .slice x10a x10n x10c, .slice x11a x11n x11c, .slice x12a x12n x12c, .int .i64 x13, .slice x66a x66n x66c, .int .i64 x67, .int .i64 x68], H) = some (Sum.inl ([Value.slice x0a x0n x0c, Value.int .i64 x1, Value.int .i64 x2, Value.slice x10a x10n x10c, Value.slice x11a x11n x11c, Value.slice x12a x12n x12c, Value.int .i64 x13, Value.slice x66a x66n x66c, Value.int .i64 x67, Value.int .i64 (x68 + 1)], H)) :=
  lp_of2 [.e, .b true, .v (.pointer (some ⟨x70p, x70o, some x70l⟩)), .v (.int .i64 x71), .v (.pointer (some ⟨x74p, x74o, some x74l⟩)), .v (.int .i64 x75), .e, .b false, .e] (ai (decide_eq_true h1) (ai h2 (ai h3 (ai h4 (ai h5 (ai h6 (ai h7 (Eq.refl (Sum.inl ([Value.slice x0a x0n x0c, Value.int .i64 x1, Value.int .i64 x2, Value.slice x10a x10n x10c, Value.slice x11a x11n x11c, Value.slice x12a x12n x12c, Value.int .i64 x13, Value.slice x66a x66n x66c, Value.int .i64 x67, Value.int .i64 (x68 + 1)], H) : LS ⊕ LO))))))))) (by kernel_rfl)
theorem f6_L1_2 {x0a : Option Addr} {x0n x0c : Nat} {x1 x2 : Int} {x10a : Option Addr} {x10n x10c : Nat} {x11a : Option Addr} {x11n x11c : Nat} {x12a : Option Addr} {x12n x12c : Nat} {x13 : Int} {x66a : Option Addr} {x66n x66c : Nat} {x67 x68 : Int} {H0 : AHeap} {prot : Nat} {H : AHeap} (h1 : ¬(x68 < x67)) : lpOf cfg a6 1 prot H0 ([.slice x0a x0n x0c, .int .i64 x1, .int .i64 x2, .slice x10a x10n x10c, .slice x11a x11n x11c, .slice x12a x12n x12c, .int .i64 x13, .slice x66a x66n x66c, .int .i64 x67, .int .i64 x68], H) = some (Sum.inr (Ex.exit 2, [Value.slice x0a x0n x0c, Value.int .i64 x1, Value.int .i64 x2, Value.slice x10a x10n x10c, Value.slice x11a x11n x11c, Value.slice x12a x12n x12c, Value.int .i64 x13], H)) :=
  lp_of2 [.e, .b false] (ai (decide_eq_false h1) (Eq.refl (Sum.inr (Ex.exit 2, [Value.slice x0a x0n x0c, Value.int .i64 x1, Value.int .i64 x2, Value.slice x10a x10n x10c, Value.slice x11a x11n x11c, Value.slice x12a x12n x12c, Value.int .i64 x13], H) : LS ⊕ LO))) (by kernel_rfl)
theorem f6_L2_0 {x0a : Option Addr} {x0n x0c : Nat} {x2 : Int} {x10a : Option Addr} {x10n x10c : Nat} {x16a : Option Addr} {x16n x16c : Nat} {x17 : Int} {H0 : AHeap} {prot : Nat} {H : AHeap} {x114p x114o x114l : Nat} {x115a : Option Addr} {x115n x115c : Nat} {z0a : Option Addr} {z0n z0c : Nat} {z2 : Int} {z10a : Option Addr} {z10n z10c : Nat} {z16a : Option Addr} {z16n z16c : Nat} {z18 : Int} {H2 : AHeap} {x146a : Option Addr} {x146n x146c : Nat} {H3 : AHeap} (h1 : (x17 != x2) = true) (h2 : aindexAddr cfg.P 22 (Value.slice x0a x0n x0c) (Value.int .i64 x17) = some (Value.pointer (some ⟨x114p, x114o, some x114l⟩))) (h3 : getCells H x114p x114l x114o 1 = some [Value.slice x115a x115n x115c]) (h4 : lpInf (lpOf cfg a6 3 prot H0) ([Value.slice x0a x0n x0c, Value.int .i64 x2, Value.slice x10a x10n x10c, Value.slice x16a x16n x16c, Value.int .i64 x17, Value.int .i64 (↑x0n : Int), Value.slice x115a x115n x115c, Value.int .i64 (↑x115n : Int), Value.int .i64 0], H) = some (Ex.exit 6, [Value.slice z0a z0n z0c, Value.int .i64 z2, Value.slice z10a z10n z10c, Value.slice z16a z16n z16c, Value.int .i64 z18], H2)) (h5 : aappend cfg.P (List.length H0) true 24 24 (Value.slice z16a z16n z16c) (Value.slice (some ⟨List.length H2, 0, some (1 * 1)⟩) 1 1) (H2 ++ [wo [Value.int .i64 z18] 3]) = some (Value.slice x146a x146n x146c, H3)) : lpOf cfg a6 2 prot H0 ([.slice x0a x0n x0c, .int .i64 x2, .slice x10a x10n x10c, .slice x16a x16n x16c, .int .i64 x17], H) = some (Sum.inl ([Value.slice z0a z0n z0c, Value.int .i64 z2, Value.slice z10a z10n z10c, Value.slice x146a x146n x146c, Value.int .i64 z18], H3)) :=
  lp_of2 [.e, .b true, .e, .v (.pointer (some ⟨x114p, x114o, some x114l⟩)), .v (.slice x115a x115n x115c), .e, .lo (.exit 6, [.slice z0a z0n z0c, .int .i64 z2, .slice z10a z10n z10c, .slice z16a z16n z16c, .int .i64 z18], H2), .e, .r (.slice x146a x146n x146c) H3] (ai h1 (ai h2 (ai h3 (ai h4 (ai h5 (Eq.refl (Sum.inl ([Value.slice z0a z0n z0c, Value.int .i64 z2, Value.slice z10a z10n z10c, Value.slice x146a x146n x146c, Value.int .i64 z18], H3) : LS ⊕ LO))))))) (by kernel_rfl)
theorem f6_L2_1 {x0a : Option Addr} {x0n x0c : Nat} {x2 : Int} {x10a : Option Addr} {x10n x10c : Nat} {x16a : Option Addr} {x16n x16c : Nat} {x17 : Int} {H0 : AHeap} {prot : Nat} {H : AHeap} (h1 : (x17 != x2) = false) : lpOf cfg a6 2 prot H0 ([.slice x0a x0n x0c, .int .i64 x2, .slice x10a x10n x10c, .slice x16a x16n x16c, .int .i64 x17], H) = some (Sum.inr (Ex.exit 4, [Value.slice x16a x16n x16c], H)) :=
  lp_of2 [.e, .b false] (ai h1 (Eq.refl (Sum.inr (Ex.exit 4, [Value.slice x16a x16n x16c], H) : LS ⊕ LO))) (by kernel_rfl)
theorem f6_L3_0 {x0a : Option Addr} {x0n x0c : Nat} {x2 : Int} {x10a : Option Addr} {x10n x10c : Nat} {x16a : Option Addr} {x16n x16c : Nat} {x17 x18 : Int} {x115a : Option Addr} {x115n x115c : Nat} {x116 x117 : Int} {H0 : AHeap} {prot : Nat} {H : AHeap} {x119p x119o x119l : Nat} {x120 : Int} {x123p x123o x123l : Nat} {x124 : Int} {x127p x127o x127l : Nat} {x128 : Int} {x134p x134o x134l : Nat} {x135 : Int} (h1 : x117 < x116) (h2 : aindexAddr cfg.P 24 (Value.slice x115a x115n x115c) (Value.int .i64 x117) = some (Value.pointer (some ⟨x119p, x119o, some x119l⟩))) (h3 : getCells H x119p x119l x119o 1 = some [Value.int .i64 x120]) (h4 : aindexAddr cfg.P 24 (Value.slice x10a x10n x10c) (Value.int .i64 x120) = some (Value.pointer (some ⟨x123p, x123o, some x123l⟩))) (h5 : getCells H x123p x123l x123o 1 = some [Value.int .i64 x124]) (h6 : aindexAddr cfg.P 24 (Value.slice x10a x10n x10c) (Value.int .i64 x17) = some (Value.pointer (some ⟨x127p, x127o, some x127l⟩))) (h7 : getCells H x127p x127l x127o 1 = some [Value.int .i64 x128]) (h8 : Fit .i64 (x128 - 1)) (h9 : (x124 == x128 - 1) = true) (h10 : aindexAddr cfg.P 24 (Value.slice x10a x10n x10c) (Value.int .i64 x120) = some (Value.pointer (some ⟨x134p, x134o, some x134l⟩))) (h11 : getCells H x134p x134l x134o 1 = some [Value.int .i64 x135]) (h12 : x135 > 0) (h13 : Fit .i64 (x117 + 1)) : lpOf cfg a6 3 prot H0 ([.slice x0a x0n x0c, .int .i64 x2, .slice x10a x10n x10c, .slice x16a x16n x16c, .int .i64 x17, .int .i64 x18, .slice x115a x115n x115c, .int .i64 x116, .int .i64 x117], H) = some (Sum.inl ([Value.slice x0a x0n x0c, Value.int .i64 x2, Value.slice x10a x10n x10c, Value.slice x16a x16n x16c, Value.int .i64 x17, Value.int .i64 (if x120 < x18 then x120 else x18), Value.slice x115a x115n x115c, Value.int .i64 x116, Value.int .i64 (x117 + 1)], H)) :=
  lp_of2 [.e, .b true, .v (.pointer (some ⟨x119p, x119o, some x119l⟩)), .v (.int .i64 x120), .v (.pointer (some ⟨x123p, x123o, some x123l⟩)), .v (.int .i64 x124), .v (.pointer (some ⟨x127p, x127o, some x127l⟩)), .v (.int .i64 x128), .e, .e, .b true, .b true, .b true, .v (.pointer (some ⟨x134p, x134o, some x134l⟩)), .b true, .v (.int .i64 x135), .b true, .e, .b true, .b true, .e, .e] (ai (decide_eq_true h1) (ai h2 (ai h3 (ai h4 (ai h5 (ai h6 (ai h7 (ai h8 (ai h9 (ai h9 (ai h9 (ai h10 (ai h9 (ai h11 (ai h9 (ai h9 (ai (decide_eq_true h12) (ai h13 (Eq.refl (Sum.inl ([Value.slice x0a x0n x0c, Value.int .i64 x2, Value.slice x10a x10n x10c, Value.slice x16a x16n x16c, Value.int .i64 x17, Value.int .i64 (if x120 < x18 then x120 else x18), Value.slice x115a x115n x115c, Value.int .i64 x116, Value.int .i64 (x117 + 1)], H) : LS ⊕ LO)))))))))))))))))))) (by kernel_rfl)
theorem f6_L3_1 {x0a : Option Addr} {x0n x0c : Nat} {x2 : Int} {x10a : Option Addr} {x10n x10c : Nat} {x16a : Option Addr} {x16n x16c : Nat} {x17 x18 : Int} {x115a : Option Addr} {x115n x115c : Nat} {x116 x117 : Int} {H0 : AHeap} {prot : Nat} {H : AHeap} {x119p x119o x119l : Nat} {x120 : Int} {x123p x123o x123l : Nat} {x124 : Int} {x127p x127o x127l : Nat} {x128 : Int} {x134p x134o x134l : Nat} {x135 : Int} (h1 : x117 < x116) (h2 : aindexAddr cfg.P 24 (Value.slice x115a x115n x115c) (Value.int .i64 x117) = some (Value.pointer (some ⟨x119p, x119o, some x119l⟩))) (h3 : getCells H x119p x119l x119o 1 = some [Value.int .i64 x120]) (h4 : aindexAddr cfg.P 24 (Value.slice x10a x10n x10c) (Value.int .i64 x120) = some (Value.pointer (some ⟨x123p, x123o, some x123l⟩))) (h5 : getCells H x123p x123l x123o 1 = some [Value.int .i64 x124]) (h6 : aindexAddr cfg.P 24 (Value.slice x10a x10n x10c) (Value.int .i64 x17) = some (Value.pointer (some ⟨x127p, x127o, some x127l⟩))) (h7 : getCells H x127p x127l x127o 1 = some [Value.int .i64 x128]) (h8 : Fit .i64 (x128 - 1)) (h9 : (x124 == x128 - 1) = true) (h10 : aindexAddr cfg.P 24 (Value.slice x10a x10n x10c) (Value.int .i64 x120) = some (Value.pointer (some ⟨x134p, x134o, some x134l⟩))) (h11 : getCells H x134p x134l x134o 1 = some [Value.int .i64 x135]) (h12 : ¬(x135 > 0)) (h13 : Fit .i64 (x117 + 1)) : lpOf cfg a6 3 prot H0 ([.slice x0a x0n x0c, .int .i64 x2, .slice x10a x10n x10c, .slice x16a x16n x16c, .int .i64 x17, .int .i64 x18, .slice x115a x115n x115c, .int .i64 x116, .int .i64 x117], H) = some (Sum.inl ([Value.slice x0a x0n x0c, Value.int .i64 x2, Value.slice x10a x10n x10c, Value.slice x16a x16n x16c, Value.int .i64 x17, Value.int .i64 x18, Value.slice x115a x115n x115c, Value.int .i64 x116, Value.int .i64 (x117 + 1)], H)) :=
  lp_of2 [.e, .b true, .v (.pointer (some ⟨x119p, x119o, some x119l⟩)), .v (.int .i64 x120), .v (.pointer (some ⟨x123p, x123o, some x123l⟩)), .v (.int .i64 x124), .v (.pointer (some ⟨x127p, x127o, some x127l⟩)), .v (.int .i64 x128), .e, .e, .b true, .b true, .b true, .v (.pointer (some ⟨x134p, x134o, some x134l⟩)), .b true, .v (.int .i64 x135), .b true, .e, .b true, .b false, .e] (ai (decide_eq_true h1) (ai h2 (ai h3 (ai h4 (ai h5 (ai h6 (ai h7 (ai h8 (ai h9 (ai h9 (ai h9 (ai h10 (ai h9 (ai h11 (ai h9 (ai h9 (ai (decide_eq_false h12) (ai h13 (Eq.refl (Sum.inl ([Value.slice x0a x0n x0c, Value.int .i64 x2, Value.slice x10a x10n x10c, Value.slice x16a x16n x16c, Value.int .i64 x17, Value.int .i64 x18, Value.slice x115a x115n x115c, Value.int .i64 x116, Value.int .i64 (x117 + 1)], H) : LS ⊕ LO)))))))))))))))))))) (by kernel_rfl)
theorem f6_L3_2 {x0a : Option Addr} {x0n x0c : Nat} {x2 : Int} {x10a : Option Addr} {x10n x10c : Nat} {x16a : Option Addr} {x16n x16c : Nat} {x17 x18 : Int} {x115a : Option Addr} {x115n x115c : Nat} {x116 x117 : Int} {H0 : AHeap} {prot : Nat} {H : AHeap} {x119p x119o x119l : Nat} {x120 : Int} {x123p x123o x123l : Nat} {x124 : Int} {x127p x127o x127l : Nat} {x128 : Int} (h1 : x117 < x116) (h2 : aindexAddr cfg.P 24 (Value.slice x115a x115n x115c) (Value.int .i64 x117) = some (Value.pointer (some ⟨x119p, x119o, some x119l⟩))) (h3 : getCells H x119p x119l x119o 1 = some [Value.int .i64 x120]) (h4 : aindexAddr cfg.P 24 (Value.slice x10a x10n x10c) (Value.int .i64 x120) = some (Value.pointer (some ⟨x123p, x123o, some x123l⟩))) (h5 : getCells H x123p x123l x123o 1 = some [Value.int .i64 x124]) (h6 : aindexAddr cfg.P 24 (Value.slice x10a x10n x10c) (Value.int .i64 x17) = some (Value.pointer (some ⟨x127p, x127o, some x127l⟩))) (h7 : getCells H x127p x127l x127o 1 = some [Value.int .i64 x128]) (h8 : Fit .i64 (x128 - 1)) (h9 : (x124 == x128 - 1) = false) (h10 : Fit .i64 (x117 + 1)) : lpOf cfg a6 3 prot H0 ([.slice x0a x0n x0c, .int .i64 x2, .slice x10a x10n x10c, .slice x16a x16n x16c, .int .i64 x17, .int .i64 x18, .slice x115a x115n x115c, .int .i64 x116, .int .i64 x117], H) = some (Sum.inl ([Value.slice x0a x0n x0c, Value.int .i64 x2, Value.slice x10a x10n x10c, Value.slice x16a x16n x16c, Value.int .i64 x17, Value.int .i64 x18, Value.slice x115a x115n x115c, Value.int .i64 x116, Value.int .i64 (x117 + 1)], H)) :=
  lp_of2 [.e, .b true, .v (.pointer (some ⟨x119p, x119o, some x119l⟩)), .v (.int .i64 x120), .v (.pointer (some ⟨x123p, x123o, some x123l⟩)), .v (.int .i64 x124), .v (.pointer (some ⟨x127p, x127o, some x127l⟩)), .v (.int .i64 x128), .e, .e, .b false, .b false, .b false, .b false, .b false, .b false, .b false, .e] (ai (decide_eq_true h1) (ai h2 (ai h3 (ai h4 (ai h5 (ai h6 (ai h7 (ai h8 (ai h9 (ai h9 (ai h9 (ai h9 (ai h9 (ai h9 (ai (Eq.refl false) (ai h10 (Eq.refl (Sum.inl ([Value.slice x0a x0n x0c, Value.int .i64 x2, Value.slice x10a x10n x10c, Value.slice x16a x16n x16c, Value.int .i64 x17, Value.int .i64 x18, Value.slice x115a x115n x115c, Value.int .i64 x116, Value.int .i64 (x117 + 1)], H) : LS ⊕ LO)))))))))))))))))) (by kernel_rfl)
theorem f6_L3_3 {x0a : Option Addr} {x0n x0c : Nat} {x2 : Int} {x10a : Option Addr} {x10n x10c : Nat} {x16a : Option Addr} {x16n x16c : Nat} {x17 x18 : Int} {x115a : Option Addr} {x115n x115c : Nat} {x116 x117 : Int} {H0 : AHeap} {prot : Nat} {H : AHeap} (h1 : ¬(x117 < x116)) : lpOf cfg a6 3 prot H0 ([.slice x0a x0n x0c, .int .i64 x2, .slice x10a x10n x10c, .slice x16a x16n x16c, .int .i64 x17, .int .i64 x18, .slice x115a x115n x115c, .int .i64 x116, .int .i64 x117], H) = some (Sum.inr (Ex.exit 6, [Value.slice x0a x0n x0c, Value.int .i64 x2, Value.slice x10a x10n x10c, Value.slice x16a x16n x16c, Value.int .i64 x18], H)) :=
  lp_of2 [.e, .b false] (ai (decide_eq_false h1) (Eq.refl (Sum.inr (Ex.exit 6, [Value.slice x0a x0n x0c, Value.int .i64 x2, Value.slice x10a x10n x10c, Value.slice x16a x16n x16c, Value.int .i64 x18], H) : LS ⊕ LO))) (by kernel_rfl)
end Go.Proofs.YtkemihfaohkoeaaDoor.Am11d
namespace Go.Proofs.YtkemihfaohkoeaaDoor.Am11d
open Go Go.Proofs.YtkemihfaohkoeaaDoor.Am
def farL (F : Nat → Nat) (N : Nat) : List Nat := (List.range N).map F
theorem farL_get {F : Nat → Nat} {N u : Nat} (h : u < N) : (il (nl (farL F N)))[u]? = some (.int .i64 ((F u : Nat) : Int)) := by
  unfold il nl farL
  rw [List.getElem?_map, List.getElem?_map, List.getElem?_map, List.getElem?_range h]; rfl
theorem farL_set {F : Nat → Nat} {N u : Nat} (c : Nat) (h : u < N) : (nl (farL F N)).set u (c : Int) = nl (farL (setF F u c) N) := by
  unfold nl farL
  apply List.ext_getElem?
  intro x
  by_cases e : x = u
  · subst e
    rw [List.getElem?_set_self (by simp; exact h), List.getElem?_map, List.getElem?_map, List.getElem?_range h]
    simp [setF]
  · rw [List.getElem?_set_ne (fun h => e h.symm), List.getElem?_map, List.getElem?_map, List.getElem?_map, List.getElem?_map]
    by_cases hx : x < N
    · rw [List.getElem?_range hx]; simp [setF, e]
    · rw [List.getElem?_eq_none (by simp; omega)]; rfl
theorem farL_len (F : Nat → Nat) (N : Nat) : (nl (farL F N)).length = N := by simp [nl, farL]
/-- The search's memory. -/
structure PS (H0 H : AHeap) (N : Nat) (x10 x11 x12 : Value) (o10 o12 : Nat) (r : Nat → Value) (F : Nat → Nat) (Q : List Nat) (T : Nat → List Nat) : Prop where
  st : Stay none H0 H
  far : Own H 3 1 x10 (some o10) N (il (nl (farL F N)))
  q : Own H 3 1 x12 (some o12) Q.length (il (nl Q))
  b10 : H0.length ≤ o10
  b12 : H0.length ≤ o12
  ne : o10 ≠ o12
  bk : ∃ cs, Rd H 24 1 x11 N cs ∧ ∀ j, j < N → cs[j]? = some (r j) ∧ Rd H 3 1 (r j) (T j).length (il (nl (T j)))
  sf : ∀ j, j < N → ∀ id off L n c, r j = .slice (some ⟨id, off, some L⟩) n c → id ≠ o10 ∧ id ≠ o12
theorem PS.meet {H0 H : AHeap} {N : Nat} {x10 x11 x12 : Value} {o10 o12 : Nat} {r : Nat → Value} {F : Nat → Nat} {Q : List Nat} {T : Nat → List Nat} (h : PS H0 H N x10 x11 x12 o10 o12 r F Q T) {u : Nat} (hu : u < N) (c : Nat) (hQ : Q.length ≤ 512) :
    ∃ id L H2 a' c' H3, aindexAddr cfg.P 24 x10 (.int .i64 (u : Nat)) = some (.pointer (some ⟨id, u, some L⟩)) ∧ setCells H H0.length id L u [.int .i64 (c : Int)] = some H2 ∧
      aappend cfg.P H0.length true 24 24 x12 (.slice (some ⟨H2.length, 0, some (1 * 1)⟩) 1 1) (H2 ++ [wo [.int .i64 (u : Int)] 3]) = some (.slice a' (Q.length + 1) c', H3) ∧
      PS H0 H3 N x10 x11 (.slice a' (Q.length + 1) c') o10 o12 r (setF F u c) (Q ++ [u]) T := by
  obtain ⟨id, H2, e, s1, s2, s3, s4, s5⟩ := own_setS T34 h.far (i := u) (j := 0) hu (vs := [.int .i64 (c : Int)]) (by simp) rfl (prot := H0.length) (fun id e => by cases e; exact h.b10)
  cases e
  rw [put_il _ (by rw [farL_len]; exact hu), farL_set c hu] at s3
  rw [Nat.mul_one] at s1
  rw [Nat.mul_one, Nat.add_zero] at s2
  have hst2 := h.st.over s4 (fun id e => by cases e; exact h.b10)
  have hq2 := h.q.stay s4 (fun id e1 e2 => h.ne (by rw [← Option.some.inj e1] at e2; exact Option.some.inj e2))
  have hl2 := hst2.1
  obtain ⟨a', c', o', H3, q1, q2, q3, q4, q5, q6⟩ := own_app T34 hq2 (ecs := [.int .i64 (u : Int)]) rfl rfl (prot := H0.length) (room := true) (fun id e => by cases e; exact h.b12) (by omega) (by omega) (L := 1 * 1) rfl (el := [Value.int .i64 (u : Int)].length) rfl
  have e12 := q6 o12 rfl
  subst e12
  have hil : il (nl Q) ++ [Value.int .i64 (u : Int)] = il (nl (Q ++ [u])) := by simp [il, nl]
  rw [hil] at q2
  refine ⟨_, _, H2, a', c', H3, s1, s2, q1, ⟨hst2.over q3 (fun id e => by cases e; exact h.b12), ?_, by rw [List.length_append]; exact q2, h.b10, h.b12, h.ne, ?_, h.sf⟩⟩
  · exact s3.stay q3 (fun id e1 e2 => h.ne (by rw [← Option.some.inj e1] at e2; exact (Option.some.inj e2).symm))
  · obtain ⟨cs, c1, c2⟩ := h.bk
    obtain ⟨_, _, _, w1, _, g1⟩ := h.far
    obtain ⟨_, _, _, w2, _, g2⟩ := hq2
    refine ⟨cs, (c1.stayE g1 (by decide) s4).stayE g2 (by decide) q3, fun j hj => ?_⟩
    obtain ⟨d1, d2⟩ := c2 j hj
    exact ⟨d1, (d2.stayNe s4 (fun id off L n c e1 e2 => (h.sf j hj id off L n c e1).1 (Option.some.inj e2).symm)).stayNe q3 (fun id off L n c e1 e2 => (h.sf j hj id off L n c e1).2 (Option.some.inj e2).symm)⟩

theorem loop21i {G : List (List Int)} (h5 : G.length ≤ 512) {H0 : AHeap} {x0 x10 x11 : Value} (hx0 : ∃ a c, x0 = .slice a G.length c) {f t o10 o12 prot i w : Nat} {r : Nat → Value} (hw : w < G.length) (hlen : (turnT G w).length ≤ 1048576) : ∀ (d m : Nat) (F : Nat → Nat) (Q : List Nat) (x12 : Value) (H : AHeap), m + d = (turnT G w).length → PS H0 H G.length x10 x11 x12 o10 o12 r F Q (turnT G) → BI G t F Q i → i < Q.length → Q.getD i 0 = w → (∀ j u, j < m → (turnT G w)[j]? = some u → 0 < F u) →
    ∃ F' Q' y H', lpInf (lpOf cfg a6 1 prot H0) ([x0, .int .i64 f, .int .i64 t, x10, x11, x12, .int .i64 i, r w, .int .i64 (turnT G w).length, .int .i64 m], H) = some (.exit 2, [x0, .int .i64 f, .int .i64 t, x10, x11, y, .int .i64 i], H') ∧ PS H0 H' G.length x10 x11 y o10 o12 r F' Q' (turnT G) ∧ BI G t F' Q' i ∧ i < Q'.length ∧ Q'.getD i 0 = w ∧ ∀ u ∈ turnT G w, 0 < F' u
  | 0, m, F, Q, x12, H, hm, hP, hB, hi, hQw, hd => by
    refine ⟨F, Q, x12, H, ?_, hP, hB, hi, hQw, fun u hu => ?_⟩
    · obtain ⟨cs, c1, c2⟩ := hP.bk
      obtain ⟨_, d2⟩ := c2 w hw
      obtain ⟨_, _, hre⟩ := d2.len
      obtain ⟨_, _, rfl⟩ := hx0
      obtain ⟨_, _, rfl⟩ := c1.len
      obtain ⟨_, _, rfl⟩ := hP.far.len
      obtain ⟨_, _, rfl⟩ := hP.q.len
      rw [hre]
      exact lp_last (f6_L1_2 (by omega))
    · obtain ⟨j, hj⟩ := List.getElem?_of_mem hu
      have := (List.getElem?_eq_some_iff.1 hj).1
      exact hd j u (by omega) hj
  | d + 1, m, F, Q, x12, H, hm, hP, hB, hi, hQw, hd => by
    have hml : m < (turnT G w).length := by omega
    have hcnt := hB.cnt
    obtain ⟨u, hu⟩ : ∃ u, (turnT G w)[m]? = some u := ⟨_, List.getElem?_eq_getElem hml⟩
    have humem := List.mem_of_getElem? hu
    obtain ⟨hul, hus⟩ := turn_mem.1 humem
    obtain ⟨cs, c1, c2⟩ := hP.bk
    obtain ⟨_, d2⟩ := c2 w hw
    have hget : (il (nl (turnT G w)))[m]? = some (.int .i64 ((u : Nat) : Int)) := by
      unfold il nl
      rw [List.getElem?_map, List.getElem?_map, hu]; rfl
    obtain ⟨i1, L1, a1, a2⟩ := rd_at T34 d2 hget
    obtain ⟨i2, L2, b1, b2⟩ := rd_at T34 hP.far.rd (farL_get hul)
    have fi : Fit .i64 ((m : Int) + 1) := fit64 (by omega) (by omega)
    by_cases hF : F u = 0
    · obtain ⟨i3, L3, e1, e2⟩ := rd_at T34 hP.q.rd (nl_at hi)
      rw [hQw] at e2
      obtain ⟨i4, L4, g1, g2⟩ := rd_at T34 hP.far.rd (farL_get hw)
      have hbd := hB.bd w
      obtain ⟨id, L, H2, a', c', H3, k1, k2, k3, k4⟩ := hP.meet hul (F w + 1) (by omega)
      have hB2 := hB.meet hi hul hF (by rw [hQw]; exact hus)
      rw [hQw] at hB2
      have pos : ∀ x, 0 < F x → 0 < setF F u (F w + 1) x := fun x hx => by unfold setF; split <;> omega
      obtain ⟨F', Q', y, H', z1, z2⟩ := loop21i h5 hx0 (f := f) (t := t) (prot := prot) hw hlen d (m + 1) _ _ _ H3 (by omega) k4 hB2 (by rw [List.length_append, List.length_singleton]; omega) (by rw [getD_snoc_lt hi]; exact hQw) (fun j x hj hx => by
        by_cases e : j = m
        · subst e
          rw [hu] at hx
          cases hx
          unfold setF
          rw [if_pos rfl]
          omega
        · exact pos x (hd j x (by omega) hx))
      refine ⟨F', Q', y, H', ?_, z2⟩
      obtain ⟨_, _, hre⟩ := d2.len
      obtain ⟨_, _, rfl⟩ := hx0
      obtain ⟨_, _, rfl⟩ := c1.len
      obtain ⟨_, _, rfl⟩ := hP.far.len
      obtain ⟨_, _, rfl⟩ := hP.q.len
      rw [hre] at a1 z1 ⊢
      rw [show ((F w + 1 : Nat) : Int) = (F w : Int) + 1 by omega] at k2
      exact lp_next (f6_L1_0 (by omega) a1 a2 b1 b2 (by rw [beq_iff_eq]; omega) e1 e2 g1 g2 (fit64 (by omega) (by omega)) k1 rfl k2 k3 fi) z1
    · obtain ⟨F', Q', y, H', z1, z2⟩ := loop21i h5 hx0 (f := f) (t := t) (prot := prot) hw hlen d (m + 1) F Q x12 H (by omega) hP hB hi hQw (fun j x hj hx => by
        by_cases e : j = m
        · subst e
          rw [hu] at hx
          cases hx
          omega
        · exact hd j x (by omega) hx)
      refine ⟨F', Q', y, H', ?_, z2⟩
      obtain ⟨_, _, hre⟩ := d2.len
      obtain ⟨_, _, rfl⟩ := hx0
      obtain ⟨_, _, rfl⟩ := c1.len
      obtain ⟨_, _, rfl⟩ := hP.far.len
      obtain ⟨_, _, rfl⟩ := hP.q.len
      rw [hre] at a1 z1 ⊢
      exact lp_next (f6_L1_1 (by omega) a1 a2 b1 b2 (by rw [beq_eq_false_iff_ne]; omega) fi) z1

theorem loop21o {G : List (List Int)} (h5 : G.length ≤ 512) (hlen : ∀ j, (turnT G j).length ≤ 1048576) {H0 : AHeap} {x0 x10 x11 : Value} (hx0 : ∃ a c, x0 = .slice a G.length c) {f t o10 o12 prot : Nat} {r : Nat → Value} : ∀ (d i : Nat) (F : Nat → Nat) (Q : List Nat) (x12 : Value) (H : AHeap), i + d = G.length + 1 → PS H0 H G.length x10 x11 x12 o10 o12 r F Q (turnT G) → BI G t F Q i →
    ∃ F' H', lpInf (lpOf cfg a6 0 prot H0) ([x0, .int .i64 f, .int .i64 t, x10, x11, x12, .int .i64 i], H) = some (.exit 0, [x0, .int .i64 f, .int .i64 t, x10], H') ∧ Own H' 3 1 x10 (some o10) G.length (il (nl (farL F' G.length))) ∧ FarOK G t f F' ∧ Stay none H0 H'
  | d, i, F, Q, x12, H, hi, hP, hB => by
    have hcnt := hB.cnt
    by_cases hlt : i < Q.length
    · cases d with
      | zero => omega
      | succ d =>
        have hw := hB.low (Q.getD i 0) (by rw [List.getD_eq_getElem?_getD, List.getElem?_eq_getElem hlt]; exact List.getElem_mem hlt)
        obtain ⟨i1, L1, a1, a2⟩ := rd_at T34 hP.q.rd (nl_at hlt)
        obtain ⟨cs, c1, c2⟩ := hP.bk
        obtain ⟨d1, d2⟩ := c2 _ hw
        obtain ⟨i2, L2, b1, b2⟩ := rd_at T22 c1 d1
        obtain ⟨F1, Q1, y, H1, z1, z2, z3, z4, z5, z6⟩ := loop21i h5 hx0 (f := f) (t := t) (prot := prot) (i := i) hw (hlen _) (turnT G (Q.getD i 0)).length 0 F Q x12 H (by omega) hP hB hlt rfl (fun j u hj => by omega)
        obtain ⟨i3, L3, e1, e2⟩ := rd_at T34 z2.q.rd (nl_at z4)
        rw [z5] at e2
        by_cases hf : Q.getD i 0 = f
        · refine ⟨F1, H1, ?_, z2.far, z3.stop z4 (by rw [z5, hf]), z2.st⟩
          obtain ⟨_, _, hre⟩ := d2.len
          obtain ⟨_, _, rfl⟩ := hx0
          obtain ⟨_, _, rfl⟩ := c1.len
          obtain ⟨_, _, rfl⟩ := hP.far.len
          obtain ⟨_, _, rfl⟩ := hP.q.len
          obtain ⟨_, _, rfl⟩ := z2.q.len
          rw [hre] at b2 z1
          exact lp_last (f6_L0_0 (by omega) a1 a2 b1 b2 z1 e1 e2 (by rw [beq_iff_eq]; omega))
        · have hnx := z3.next z4 (fun u hu => z6 u (turn_mem.2 ⟨?_, by rw [← z5]; exact hu⟩))
          · obtain ⟨F2, H2, w1, w2⟩ := loop21o h5 hlen hx0 (f := f) (t := t) (prot := prot) d (i + 1) F1 Q1 y H1 (by omega) z2 hnx
            refine ⟨F2, H2, ?_, w2⟩
            have hcnt1 := z3.cnt
            obtain ⟨_, _, hre⟩ := d2.len
            obtain ⟨_, _, rfl⟩ := hx0
            obtain ⟨_, _, rfl⟩ := c1.len
            obtain ⟨_, _, rfl⟩ := hP.far.len
            obtain ⟨_, _, rfl⟩ := hP.q.len
            obtain ⟨_, _, rfl⟩ := z2.q.len
            rw [hre] at b2 z1
            exact lp_next (f6_L0_1 (by omega) a1 a2 b1 b2 z1 e1 e2 (by rw [beq_eq_false_iff_ne]; omega) (fit64 (by omega) (by omega))) w1
          · rcases Nat.lt_or_ge u G.length with h | h
            · exact h
            · unfold sc at hu
              rw [List.getD_eq_getElem?_getD, List.getElem?_eq_none h] at hu
              simp at hu
    · refine ⟨F, H, ?_, hP.far, hB.done f (by omega), hP.st⟩
      obtain ⟨cs, c1, c2⟩ := hP.bk
      obtain ⟨_, _, rfl⟩ := hx0
      obtain ⟨_, _, rfl⟩ := c1.len
      obtain ⟨_, _, rfl⟩ := hP.far.len
      obtain ⟨_, _, rfl⟩ := hP.q.len
      exact lp_last (f6_L0_2 (by omega))
end Go.Proofs.YtkemihfaohkoeaaDoor.Am11d
namespace Go.Proofs.YtkemihfaohkoeaaDoor.Am11d
open Go Go.Proofs.YtkemihfaohkoeaaDoor.Am
theorem leastL_congr {p q : Nat → Bool} : ∀ (l : List Nat) (m : Nat), (∀ u ∈ l, p u = q u) → leastL p l m = leastL q l m
  | [], m, _ => rfl
  | u :: l, m, h => by
    rw [leastL, leastL, h u (by simp)]
    exact leastL_congr l _ (fun x hx => h x (by simp [hx]))
theorem loop21l {G : List (List Int)} (hG : Good G) {H0 H : AHeap} {x0 x10 x16 y : Value} (hx0 : ∃ a c, x0 = .slice a G.length c) {t v prot : Nat} (hv : v < G.length) {F : Nat → Nat} (hFb : ∀ u, F u ≤ 100000) (hf : Rd H 3 1 x10 G.length (il (nl (farL F G.length)))) (hy : Rd H 3 1 y G[v].length (il G[v])) (h16 : ∃ a n c, x16 = .slice a n c) : ∀ (d i m : Nat), i + d = G[v].length →
    lpInf (lpOf cfg a6 3 prot H0) ([x0, .int .i64 t, x10, x16, .int .i64 v, .int .i64 m, y, .int .i64 G[v].length, .int .i64 i], H) =
      some (.exit 6, [x0, .int .i64 t, x10, x16, .int .i64 (leastL (fun u => decide (F u + 1 = F v ∧ 0 < F u)) ((sc G v).drop i) m : Nat)], H)
  | 0, i, m, hi => by
    have hl := sc_len hv
    rw [List.drop_of_length_le (by omega)]
    obtain ⟨_, _, rfl⟩ := hx0
    obtain ⟨_, _, rfl⟩ := hf.len
    obtain ⟨_, _, rfl⟩ := hy.len
    obtain ⟨_, _, _, rfl⟩ := h16
    exact lp_last (f6_L3_3 (by omega))
  | d + 1, i, m, hi => by
    have hil : i < G[v].length := by omega
    have hl := sc_len hv
    have hsh := hG.2.1 _ (List.getElem_mem hv)
    obtain ⟨u, hue, hul, hsc⟩ := sc_get hG hv hil
    have hdrop : (sc G v).drop i = u :: (sc G v).drop (i + 1) := by
      rw [List.drop_eq_getElem_cons (by omega)]
      rw [List.getElem?_eq_getElem (by omega)] at hsc
      rw [Option.some.inj hsc]
    rw [hdrop, leastL]
    obtain ⟨i1, L1, a1, a2⟩ := rd_at T34 hy (il_get hil)
    rw [hue] at a2
    obtain ⟨i2, L2, b1, b2⟩ := rd_at T34 hf (farL_get hul)
    obtain ⟨i3, L3, c1, c2⟩ := rd_at T34 hf (farL_get hv)
    have fi : Fit .i64 ((i : Int) + 1) := fit64 (by omega) (by omega)
    have h1 := hFb u
    have h2 := hFb v
    have fv : Fit .i64 ((F v : Int) - 1) := fit64 (by omega) (by omega)
    by_cases e1 : F u + 1 = F v
    · have eb : (((F u : Nat) : Int) == (F v : Int) - 1) = true := by rw [beq_iff_eq]; omega
      by_cases e2 : 0 < F u
      · have ih := loop21l hG hx0 (H0 := H0) (t := t) (prot := prot) hv hFb hf hy h16 d (i + 1) (min u m) (by omega)
        rw [if_pos (decide_eq_true ⟨e1, e2⟩)]
        have em : (if (u : Int) < (m : Int) then (u : Int) else (m : Int)) = ((min u m : Nat) : Int) := by split <;> omega
        rw [← em] at ih
        obtain ⟨_, _, rfl⟩ := hx0
        obtain ⟨_, _, rfl⟩ := hf.len
        obtain ⟨_, _, rfl⟩ := hy.len
        obtain ⟨_, _, _, rfl⟩ := h16
        exact lp_next (f6_L3_0 (by omega) a1 a2 b1 b2 c1 c2 fv eb b1 b2 (by omega) fi) ih
      · have ih := loop21l hG hx0 (H0 := H0) (t := t) (prot := prot) hv hFb hf hy h16 d (i + 1) m (by omega)
        rw [if_neg (by simp; omega)]
        obtain ⟨_, _, rfl⟩ := hx0
        obtain ⟨_, _, rfl⟩ := hf.len
        obtain ⟨_, _, rfl⟩ := hy.len
        obtain ⟨_, _, _, rfl⟩ := h16
        exact lp_next (f6_L3_1 (by omega) a1 a2 b1 b2 c1 c2 fv eb b1 b2 (by omega) fi) ih
    · have eb : (((F u : Nat) : Int) == (F v : Int) - 1) = false := by rw [beq_eq_false_iff_ne]; omega
      have ih := loop21l hG hx0 (H0 := H0) (t := t) (prot := prot) hv hFb hf hy h16 d (i + 1) m (by omega)
      rw [if_neg (by simp; omega)]
      obtain ⟨_, _, rfl⟩ := hx0
      obtain ⟨_, _, rfl⟩ := hf.len
      obtain ⟨_, _, rfl⟩ := hy.len
      obtain ⟨_, _, _, rfl⟩ := h16
      exact lp_next (f6_L3_2 (by omega) a1 a2 b1 b2 c1 c2 fv eb fi) ih
theorem sc_lt {G : List (List Int)} (hG : Good G) {v u : Nat} (hu : u ∈ sc G v) : v < G.length ∧ u < G.length := by
  have hv : v < G.length := by
    rcases Nat.lt_or_ge v G.length with h | h
    · exact h
    · unfold sc at hu
      rw [List.getD_eq_getElem?_getD, List.getElem?_eq_none h] at hu
      simp at hu
  refine ⟨hv, ?_⟩
  unfold sc at hu
  rw [List.getD_eq_getElem?_getD, List.getElem?_eq_getElem hv, Option.getD_some] at hu
  obtain ⟨x, hx, rfl⟩ := List.mem_map.1 hu
  have := hG.2.2 v G[v] x (List.getElem?_eq_getElem hv) hx
  omega
theorem loop21p {G : List (List Int)} (hG : Good G) {H0 : AHeap} {x0 x10 : Value} (hg : Gr H0 x0 G) {t f prot o10 : Nat} {F : Nat → Nat} (hF : FarOK G t f F) (hFb : ∀ u, F u ≤ 100000) (hb : H0.length ≤ o10) : ∀ (k v : Nat) (pre : List Nat) (x16 : Value) (o16 : Nat) (H : AHeap), v < G.length → dt G t v = k + 1 → k + 1 ≤ dt G t f → Stay none H0 H → Own H 3 1 x10 (some o10) G.length (il (nl (farL F G.length))) → Own H 3 1 x16 (some o16) (pre.length + 1) (il (nl (pre ++ [v]))) → H0.length ≤ o16 → o16 ≠ o10 → pre.length + k ≤ 100000 →
    ∃ x' o' H', lpInf (lpOf cfg a6 2 prot H0) ([x0, .int .i64 t, x10, x16, .int .i64 v], H) = some (.exit 4, [x'], H') ∧ Own H' 3 1 x' (some o') (pre.length + (k + 1)) (il (nl (pre ++ pth G t k v))) ∧ H0.length ≤ o' ∧ Stay none H0 H'
  | 0, v, pre, x16, o16, H, hv, hd, hle, hst, hf, hx, ho, hne, hsz => by
    have hvt := dt_one hd
    refine ⟨x16, o16, H, ?_, hx, ho, hst⟩
    obtain ⟨_, _, rfl⟩ := hg.len
    obtain ⟨_, _, rfl⟩ := hf.len
    obtain ⟨_, _, rfl⟩ := hx.len
    exact lp_last (f6_L2_1 (by rw [hvt]; simp))
  | k + 1, v, pre, x16, o16, H, hv, hd, hle, hst, hf, hx, ho, hne, hsz => by
    have hnt : v ≠ t := fun e => by subst e; rw [dt_self] at hd; omega
    obtain ⟨n1, n2, n3, n4⟩ := nx_ok (v := v) (G := G) (fun u hu => (sc_lt hG hu).2) (t := t) (by omega)
    obtain ⟨id, L, y, a1, a2, a3⟩ := (hg.stay hst).row hv
    have hFv : F v = dt G t v := by
      have := hF.near v (by omega) (by omega)
      exact hF.ex v this
    have hl := loop21l hG hg.len (H0 := H0) (t := t) (prot := prot) hv hFb hf.rd a3 (x16 := x16) (by obtain ⟨a, c, e⟩ := hx.len; exact ⟨a, _, c, e⟩) G[v].length 0 G.length (by omega)
    rw [List.drop_zero] at hl
    have hnx : leastL (fun u => decide (F u + 1 = F v ∧ 0 < F u)) (sc G v) G.length = nx G t v := by
      unfold nx
      refine leastL_congr _ _ fun u hu => ?_
      rw [decide_eq_decide]
      constructor
      · rintro ⟨e1, e2⟩
        rw [hF.ex u e2] at e1
        exact ⟨by rw [← hFv]; exact e1, by rw [← hF.ex u e2]; exact e2⟩
      · rintro ⟨e1, e2⟩
        have := hF.near u e2 (by omega)
        rw [hF.ex u this, hFv]
        exact ⟨e1, e2⟩
    rw [hnx] at hl
    have hl0 := hst.1
    obtain ⟨a', c', o', H3, q1, q2, q3, q4, q5, q6⟩ := own_app T34 hx (ecs := [.int .i64 ((nx G t v : Nat) : Int)]) rfl rfl (prot := H0.length) (room := true) (fun id e => by cases e; exact ho) hl0 (by omega) (L := 1 * 1) rfl (el := [Value.int .i64 ((nx G t v : Nat) : Int)].length) rfl
    have e16 := q6 o16 rfl
    subst e16
    have hil : il (nl (pre ++ [v])) ++ [Value.int .i64 ((nx G t v : Nat) : Int)] = il (nl ((pre ++ [v]) ++ [nx G t v])) := by simp [il, nl]
    rw [hil] at q2
    have hf3 := hf.stay q3 (fun id e1 e2 => hne (by rw [← Option.some.inj e1] at e2; exact Option.some.inj e2))
    obtain ⟨x', o2, H', z1, z2, z3, z4⟩ := loop21p hG hg (prot := prot) hF hFb hb k (nx G t v) (pre ++ [v]) _ _ H3 n3 (by omega) (by omega) (hst.over q3 (fun id e => by cases e; exact ho)) hf3 (by rw [List.length_append, List.length_singleton]; exact q2) ho hne (by rw [List.length_append, List.length_singleton]; omega)
    rw [List.length_append, List.length_singleton, List.append_assoc] at z2
    refine ⟨x', o2, H', ?_, ?_, z3, z4⟩
    · obtain ⟨_, _, rfl⟩ := hg.len
      obtain ⟨_, _, rfl⟩ := hf.len
      obtain ⟨_, _, rfl⟩ := hx.len
      obtain ⟨_, _, rfl⟩ := a3.len
      exact lp_next (f6_L2_0 (by rw [bne_iff_ne]; omega) a1 a2 hl q1) z1
    · rw [show pre.length + (k + 1 + 1) = pre.length + 1 + (k + 1) by omega]
      exact z2

/-- What Path answers: of vertices. -/
theorem c21 {G : List (List Int)} (hG : Good G) (hE : lens G ≤ 1048576) {vG : Value} (prot : Nat) {H : AHeap} (hg : Gr H vG G) (hck : chk G = 0) {f t : Nat} (hf : f < G.length) (ht : t < G.length) :
    (dt G t f = 0 ∧ callInf cfg 6 [vG, .int .i64 f, .int .i64 t] prot H = some (.tuple #[.slice none 0 0, .bool false, .int .i64 0], H)) ∨
    (0 < dt G t f ∧ dt G t f ≤ G.length ∧ ∃ x' H', callInf cfg 6 [vG, .int .i64 f, .int .i64 t] prot H = some (.tuple #[x', .bool true, .int .i64 0], H') ∧ OwnE H' 3 x' (dt G t f) (il (nl (pth G t (dt G t f - 1) f))) H.length ∧ Stay none H H') := by
  have h5 := hG.1
  have h0 : 0 < G.length := by omega
  have h25 := c25 hG.2.1 H.length hg
  rw [hck] at h25
  have hT : ∀ j, (turnT G j).length ≤ 1048576 := fun j => by
    have := turn_len0 (G := G) j
    omega
  obtain ⟨HA, hHA⟩ : ∃ HA, HA = H ++ [AObj.cells (repCells [.int .i64 0] G.length) 3 (repCells [.int .i64 0] G.length).length .row] := ⟨_, rfl⟩
  have lA : HA.length = H.length + 1 := by rw [hHA, List.length_append, List.length_singleton]
  have sA : Stay none H HA := by rw [hHA]; exact Stay.app none H _
  have m : Own HA 3 1 (.slice (some ⟨H.length, 0, some (G.length * 1)⟩) G.length G.length) (some H.length) G.length (il (nl (farL (fun _ => 0) G.length))) := by
    rw [hHA]
    have := own_mk (e := 3) h0 H (.int .i64 0)
    have e1 : il (nl (farL (fun _ => 0) G.length)) = List.replicate G.length (.int .i64 0) := by
      unfold il nl farL
      rw [List.map_const', List.length_range, List.map_replicate, List.map_replicate]
      rfl
    rw [e1]
    exact this
  obtain ⟨id, HB, e, s1, s2, s3, s4, s5⟩ := own_setS T34 m (i := t) (j := 0) ht (vs := [.int .i64 ((1 : Nat) : Int)]) (by simp) rfl (prot := H.length) (fun id e => by cases e; exact Nat.le_refl _)
  cases e
  rw [put_il _ (by rw [farL_len]; exact ht), farL_set 1 ht] at s3
  have sB : Stay none H HB := sA.over s4 (fun id e => by cases e; exact Nat.le_refl _)
  obtain ⟨x11, HC, w1, w2, w3⟩ := c33 hG hE H.length (hg.stay sB)
  obtain ⟨r, o, o3, hO⟩ : ∃ r o o3, Out HB.length HC x11 G.length r o o3 (turnT G) := by
    rcases w2.ex with h | ⟨h, _⟩
    · exact h
    · omega
  obtain ⟨HD, hHD⟩ : ∃ HD, HD = HC ++ [wo [.int .i64 (t : Int)] 3] := ⟨_, rfl⟩
  have sD : Stay none HC HD := by rw [hHD]; exact Stay.app none HC _
  have lD : HC.length < HD.length := by rw [hHD, List.length_append, List.length_singleton]; omega
  have hq : Own HD 3 1 (.slice (some ⟨HC.length, 0, some (1 * 1)⟩) 1 1) (some HC.length) [t].length (il (nl [t])) := by
    rw [hHD]
    exact own_new (e := 3) (s := 1) (n := 1) (cs := [.int .i64 (t : Int)]) rfl (by omega) rfl rfl
  have hlB : HB.length = H.length + 1 := by rw [s5, lA]
  have hlC := w3.1
  have hP : PS H HD G.length (.slice (some ⟨H.length, 0, some (G.length * 1)⟩) G.length G.length) x11 (.slice (some ⟨HC.length, 0, some (1 * 1)⟩) 1 1) H.length HC.length r (setF (fun _ => 0) t 1) [t] (turnT G) := by
    refine ⟨(sB.trans w3).trans sD, (s3.stay w3 (fun _ _ e => by cases e)).stay sD (fun _ _ e => by cases e), hq, Nat.le_refl _, by omega, by omega, ⟨_, hO.x3.rd.stay sD, fun j hj => ⟨range_at r hj, (hO.rx j hj).rd.stay sD⟩⟩, fun j hj id off L n c e => ?_⟩
    have h1 := hO.rx j hj
    cases hoj : o j with
    | none =>
      rw [hoj] at h1
      rcases h1.2.2 with h2 | h2
      · rw [h2] at e; cases e
      · rw [h2] at e; cases e
    | some a =>
      rw [hoj] at h1
      have h2 := hO.bo j hj a hoj
      have h3 := own_lt h1
      have h4 := h1.2.2.1
      rw [h4] at e
      cases e
      omega
  obtain ⟨F, HE, z1, z2, z3, z4⟩ := loop21o h5 hT hg.len (f := f) (t := t) (prot := prot) (G.length + 1) 0 _ _ _ HD (by omega) hP (BI.start ht)
  have hbd := z3.bd
  have hFb : ∀ u, F u ≤ 100000 ∨ True := fun u => .inr trivial
  obtain ⟨i1, L1, p1, p2⟩ := rd_at T34 z2.rd (farL_get hf)
  have e21 : ((0 : Int) != 0) = false := by decide
  rw [show t * 1 = t from Nat.mul_one t] at s1
  rw [show t * 1 + 0 = t from Nat.mul_one t] at s2
  subst hHA
  rcases Nat.eq_zero_or_pos (dt G t f) with hd | hd
  · refine .inl ⟨hd, ?_⟩
    subst hHD
    obtain ⟨_, _, rfl⟩ := hg.len
    obtain ⟨_, _, rfl⟩ := hO.x3.len
    exact f6_F_5 h25 e21 (by omega) (by omega) (by omega) (by omega) (by omega) rfl (by omega) (by omega) s1 rfl s2 w1 z1 p1 p2 (by rw [z3.ff, hd]; rfl)
  · refine .inr ⟨hd, by rw [← z3.ff]; exact z3.bd, ?_⟩
    obtain ⟨HG, hHG⟩ : ∃ HG, HG = HE ++ [wo [.int .i64 (f : Int)] 3] := ⟨_, rfl⟩
    have sG : Stay none HE HG := by rw [hHG]; exact Stay.app none HE _
    have hx16 : Own HG 3 1 (.slice (some ⟨HE.length, 0, some (1 * 1)⟩) 1 1) (some HE.length) (([] : List Nat).length + 1) (il (nl ([] ++ [f]))) := by
      rw [hHG]
      exact own_new (e := 3) (s := 1) (n := 1) (cs := [.int .i64 (f : Int)]) rfl (by omega) rfl rfl
    have hlE := z4.1
    have lE2 : H.length < HE.length := own_lt z2
    have hFb2 : ∀ u, F u ≤ 100000 := fun u => by
      have := z3.all u
      omega
    obtain ⟨x', o', HF, y1, y2, y3, y4⟩ := loop21p hG hg (prot := prot) z3 hFb2 (Nat.le_refl _) (dt G t f - 1) f [] _ HE.length HG hf (by omega) (by omega) (z4.trans sG) (z2.stay sG (fun _ _ e => by cases e)) hx16 (by omega) (by omega) (by rw [z3.ff] at hbd; simp; omega)
    rw [List.length_nil, Nat.zero_add, List.nil_append, show dt G t f - 1 + 1 = dt G t f by omega] at y2
    obtain ⟨x2, H', g1, g2, g3⟩ := gcE (H := H) (.inl ⟨some o', y2, fun id e => by cases e; exact y3⟩) (il_plain _) (ps := [.bool true, .int .i64 0]) rfl
    refine ⟨x2, H', ?_, g2, g3⟩
    subst hHG; subst hHD
    obtain ⟨_, _, rfl⟩ := hg.len
    obtain ⟨_, _, rfl⟩ := hO.x3.len
    obtain ⟨_, _, rfl⟩ := y2.len
    exact f6_F_6 _ _ h25 e21 (by omega) (by omega) (by omega) (by omega) (by omega) rfl (by omega) (by omega) s1 rfl s2 w1 z1 p1 p2 (by rw [z3.ff, beq_eq_false_iff_ne]; omega) y1 (by rw [pfin_eq, if_neg (by simp [a6])]; exact g1)
end Go.Proofs.YtkemihfaohkoeaaDoor.Am11d
set_option linter.unusedVariables false
open Go Go.Proofs.YtkemihfaohkoeaaDoor.Am
namespace Go.Proofs.YtkemihfaohkoeaaDoor.Am11d
theorem f21_F_0 {x0a : Option Addr} {x0n x0c : Nat} {H : AHeap} {prot : Nat} {x6a : Option Addr} {x6n x6c : Nat} {H1 : AHeap} {x9a : Option Addr} {x9n x9c : Nat} {H2 : AHeap} {x13a : Option Addr} {x13n x13c : Nat} (rv : Value) (rH : AHeap) (h1 : aappend cfg.P (List.length H) true 24 24 (Value.slice (some { block := 0, off := 0 }) 0 0) (Value.slice x0a x0n x0c) H = some (Value.slice x6a x6n x6c, H1)) (h2 : aappend cfg.P (List.length H) true 24 24 (Value.slice x6a x6n x6c) (Value.slice (some ⟨List.length H1, 0, some (2 * 1)⟩) 2 2) (H1 ++ [wo [Value.int .i64 (-77), Value.int .i64 (-78)] 3]) = some (Value.slice x9a x9n x9c, H2)) (h3 : aslice cfg.P 24 (Value.slice x9a x9n x9c) none (some (Value.int .i64 (↑x0n : Int))) none H2 = some (Value.slice x13a x13n x13c)) (h4 : pfin a21 H [Value.slice x13a x13n x13c] H2 = (rv, rH)) : callInf cfg 21 [.slice x0a x0n x0c] prot H = some (rv, rH) :=
  fn_of2 a21 [.e, .r (.slice x6a x6n x6c) H1, .e, .r (.slice x9a x9n x9c) H2, .e, .v (.slice x13a x13n x13c)] (ai h1 (ai h2 (ai h3 h4))) (by kernel_rfl) rfl
end Go.Proofs.YtkemihfaohkoeaaDoor.Am11d
set_option linter.unusedVariables false
open Go Go.Proofs.YtkemihfaohkoeaaDoor.Am
namespace Go.Proofs.YtkemihfaohkoeaaDoor.Am11d
theorem f10_F_0 {x0a : Option Addr} {x0n x0c : Nat} {x1a : Option Addr} {x1n x1c : Nat} {H : AHeap} {prot : Nat} (h1 : ((↑x0n : Int) != (↑x1n : Int)) = true) : callInf cfg 10 [.slice x0a x0n x0c, .slice x1a x1n x1c] prot H = some (Value.bool false, H) :=
  fn_of2 a10 [.e, .e, .e, .b true] (ai h1 (Eq.refl ((Value.bool false, H) : Value × AHeap))) (by kernel_rfl) rfl
theorem f10_F_1 {x0a : Option Addr} {x0n x0c : Nat} {x1a : Option Addr} {x1n x1c : Nat} {H : AHeap} {prot : Nat} {z4 : Value} {H1 : AHeap} (h1 : ((↑x0n : Int) != (↑x1n : Int)) = false) (h2 : lpInf (lpOf cfg a10 0 prot H) ([Value.slice x0a x0n x0c, Value.slice x1a x1n x1c, Value.int .i64 0], H) = some (Ex.exit 0, [z4], H1)) : callInf cfg 10 [.slice x0a x0n x0c, .slice x1a x1n x1c] prot H = some (Value.bool true, H) :=
  fn_of2 a10 [.e, .e, .e, .b false, .lo (.exit 0, [z4], H1)] (ai h1 (ai h2 (Eq.refl ((Value.bool true, H) : Value × AHeap)))) (by kernel_rfl) rfl
theorem f10_F_2 {x0a : Option Addr} {x0n x0c : Nat} {x1a : Option Addr} {x1n x1c : Nat} {H : AHeap} {prot : Nat} {z4 : Bool} {H1 : AHeap} (h1 : ((↑x0n : Int) != (↑x1n : Int)) = false) (h2 : lpInf (lpOf cfg a10 0 prot H) ([Value.slice x0a x0n x0c, Value.slice x1a x1n x1c, Value.int .i64 0], H) = some (Ex.ret, [Value.bool z4], H1)) : callInf cfg 10 [.slice x0a x0n x0c, .slice x1a x1n x1c] prot H = some (Value.bool z4, H) :=
  fn_of2 a10 [.e, .e, .e, .b false, .lo (.ret, [.bool z4], H1)] (ai h1 (ai h2 (Eq.refl ((Value.bool z4, H) : Value × AHeap)))) (by kernel_rfl) rfl
theorem f10_L0_0 {x0a : Option Addr} {x0n x0c : Nat} {x1a : Option Addr} {x1n x1c : Nat} {x5 : Int} {H0 : AHeap} {prot : Nat} {H : AHeap} {x19p x19o x19l : Nat} {x20 : Int} {x23p x23o x23l : Nat} {x24 : Int} (h1 : x5 < (↑x0n : Int)) (h2 : aindexAddr cfg.P 24 (Value.slice x0a x0n x0c) (Value.int .i64 x5) = some (Value.pointer (some ⟨x19p, x19o, some x19l⟩))) (h3 : getCells H x19p x19l x19o 1 = some [Value.int .i64 x20]) (h4 : aindexAddr cfg.P 24 (Value.slice x1a x1n x1c) (Value.int .i64 x5) = some (Value.pointer (some ⟨x23p, x23o, some x23l⟩))) (h5 : getCells H x23p x23l x23o 1 = some [Value.int .i64 x24]) (h6 : (x20 != x24) = true) : lpOf cfg a10 0 prot H0 ([.slice x0a x0n x0c, .slice x1a x1n x1c, .int .i64 x5], H) = some (Sum.inr (Ex.ret, [Value.bool false], H)) :=
  lp_of2 [.e, .e, .b true, .v (.pointer (some ⟨x19p, x19o, some x19l⟩)), .v (.int .i64 x20), .v (.pointer (some ⟨x23p, x23o, some x23l⟩)), .v (.int .i64 x24), .e, .b true] (ai (decide_eq_true h1) (ai h2 (ai h3 (ai h4 (ai h5 (ai h6 (Eq.refl (Sum.inr (Ex.ret, [Value.bool false], H) : LS ⊕ LO)))))))) (by kernel_rfl)
theorem f10_L0_1 {x0a : Option Addr} {x0n x0c : Nat} {x1a : Option Addr} {x1n x1c : Nat} {x5 : Int} {H0 : AHeap} {prot : Nat} {H : AHeap} {x19p x19o x19l : Nat} {x20 : Int} {x23p x23o x23l : Nat} {x24 : Int} (h1 : x5 < (↑x0n : Int)) (h2 : aindexAddr cfg.P 24 (Value.slice x0a x0n x0c) (Value.int .i64 x5) = some (Value.pointer (some ⟨x19p, x19o, some x19l⟩))) (h3 : getCells H x19p x19l x19o 1 = some [Value.int .i64 x20]) (h4 : aindexAddr cfg.P 24 (Value.slice x1a x1n x1c) (Value.int .i64 x5) = some (Value.pointer (some ⟨x23p, x23o, some x23l⟩))) (h5 : getCells H x23p x23l x23o 1 = some [Value.int .i64 x24]) (h6 : (x20 != x24) = false) (h7 : Fit .i64 (x5 + 1)) : lpOf cfg a10 0 prot H0 ([.slice x0a x0n x0c, .slice x1a x1n x1c, .int .i64 x5], H) = some (Sum.inl ([Value.slice x0a x0n x0c, Value.slice x1a x1n x1c, Value.int .i64 (x5 + 1)], H)) :=
  lp_of2 [.e, .e, .b true, .v (.pointer (some ⟨x19p, x19o, some x19l⟩)), .v (.int .i64 x20), .v (.pointer (some ⟨x23p, x23o, some x23l⟩)), .v (.int .i64 x24), .e, .b false, .e] (ai (decide_eq_true h1) (ai h2 (ai h3 (ai h4 (ai h5 (ai h6 (ai h7 (Eq.refl (Sum.inl ([Value.slice x0a x0n x0c, Value.slice x1a x1n x1c, Value.int .i64 (x5 + 1)], H) : LS ⊕ LO))))))))) (by kernel_rfl)
theorem f10_L0_2 {x0a : Option Addr} {x0n x0c : Nat} {x1a : Option Addr} {x1n x1c : Nat} {x5 : Int} {H0 : AHeap} {prot : Nat} {H : AHeap} (h1 : ¬(x5 < (↑x0n : Int))) : lpOf cfg a10 0 prot H0 ([.slice x0a x0n x0c, .slice x1a x1n x1c, .int .i64 x5], H) = some (Sum.inr (Ex.exit 0, [Value.tuple { toList := [] }], H)) :=
  lp_of2 [.e, .e, .b false] (ai (decide_eq_false h1) (Eq.refl (Sum.inr (Ex.exit 0, [Value.tuple { toList := [] }], H) : LS ⊕ LO))) (by kernel_rfl)
end Go.Proofs.YtkemihfaohkoeaaDoor.Am11d
set_option linter.unusedVariables false
open Go Go.Proofs.YtkemihfaohkoeaaDoor.Am
namespace Go.Proofs.YtkemihfaohkoeaaDoor.Am11d
theorem f32_F_0 {x0a : Option Addr} {x0n x0c : Nat} {x1a : Option Addr} {x1n x1c : Nat} {H : AHeap} {prot : Nat} {x10a : Option Addr} {x10n x10c : Nat} {x14a : Option Addr} {x14n x14c : Nat} {x16 : Bool} {x21p x21o x21l : Nat} {x22 : Int} {x30p x30o x30l : Nat} {x31 : Int} (h1 : Fit .i64 ((↑x1n : Int) + 2)) (h2 : aslice cfg.P 24 (Value.slice x0a x0n x0c) none (some (Value.int .i64 ((↑x1n : Int) + 2))) none H = some (Value.slice x10a x10n x10c)) (h3 : aslice cfg.P 24 (Value.slice x10a x10n x10c) none (some (Value.int .i64 (↑x1n : Int))) none H = some (Value.slice x14a x14n x14c)) (h4 : callInf cfg 10 [Value.slice x14a x14n x14c, Value.slice x1a x1n x1c] (List.length H) H = some (Value.bool x16, H)) (h5 : x16 = true) (h6 : aindexAddr cfg.P 24 (Value.slice x10a x10n x10c) (Value.int .i64 (↑x1n : Int)) = some (Value.pointer (some ⟨x21p, x21o, some x21l⟩))) (h7 : getCells H x21p x21l x21o 1 = some [Value.int .i64 x22]) (h8 : (x22 == -77) = true) (h9 : Fit .i64 ((↑x1n : Int) + 1)) (h10 : aindexAddr cfg.P 24 (Value.slice x10a x10n x10c) (Value.int .i64 ((↑x1n : Int) + 1)) = some (Value.pointer (some ⟨x30p, x30o, some x30l⟩))) (h11 : getCells H x30p x30l x30o 1 = some [Value.int .i64 x31]) : callInf cfg 32 [.slice x0a x0n x0c, .slice x1a x1n x1c] prot H = some (Value.bool (x31 == -78), H) :=
  fn_of2 a32 [.e, .e, .v (.slice x10a x10n x10c), .e, .v (.slice x14a x14n x14c), .v (.bool x16), .b true, .b true, .b true, .e, .b true, .v (.pointer (some ⟨x21p, x21o, some x21l⟩)), .b true, .v (.int .i64 x22), .b true, .e, .b true, .b true, .b true, .b true, .e, .b true, .e, .b true, .v (.pointer (some ⟨x30p, x30o, some x30l⟩)), .b true, .v (.int .i64 x31), .b true, .e, .b true] (ai h1 (ai h2 (ai h3 (ai h4 (ai h5 (ai h5 (ai h5 (ai h5 (ai h6 (ai h5 (ai h7 (ai h5 (ai h5 (ai h8 (ai h8 (ai h8 (ai h8 (ai h9 (ai h8 (ai h10 (ai h8 (ai h11 (ai h8 (ai h8 (Eq.refl ((Value.bool (x31 == -78), H) : Value × AHeap)))))))))))))))))))))))))) (by kernel_rfl) rfl
end Go.Proofs.YtkemihfaohkoeaaDoor.Am11d
namespace Go.Proofs.YtkemihfaohkoeaaDoor.Am11d
open Go Go.Proofs.YtkemihfaohkoeaaDoor.Am
def lentC (l : List Int) : List Value := il l ++ [.int .i64 (-77), .int .i64 (-78)]
/-- A list that was lent. -/
structure LR (H : AHeap) (r : Value) (l : List Int) (id : Nat) : Prop where
  e : r = .slice (some ⟨id, 0, some (l.length + 2)⟩) l.length (l.length + 2)
  g : ∃ wr md, wr ≤ l.length + 2 ∧ H[id]? = some (.cells (lentC l) 3 wr md)
theorem lentC_len (l) : (lentC l).length = l.length + 2 := by simp [lentC, il]
theorem LR.rd {H : AHeap} {r : Value} {l : List Int} {id : Nat} (h : LR H r l id) : Rd H 3 1 r l.length (il l) := by
  obtain ⟨wr, md, h1, h2⟩ := h.g
  refine ⟨by simp [il], .inr ⟨id, l.length + 2, wr, md, _, lentC l, h.e, h1, by rw [lentC_len]; exact Nat.le_refl _, by omega, h2, ?_⟩⟩
  unfold lentC
  rw [List.take_append_of_le_length (by simp [il]), List.take_of_length_le (by simp [il])]
theorem LR.stay {H H' : AHeap} {r : Value} {l : List Int} {id : Nat} (h : LR H r l id) {o : Option Nat} (k : Stay o H H') (ho : o ≠ some id) : LR H' r l id := by
  obtain ⟨wr, md, h1, h2⟩ := h.g
  exact ⟨h.e, wr, md, h1, by rw [k.2 id (List.getElem?_eq_some_iff.1 h2).1 ho]; exact h2⟩
theorem c32 {l : List Int} {x : Value} (hn : l.length * 8 + 16 ≤ 140737488355328) (prot : Nat) (H : AHeap) (hx : Rd H 3 1 x l.length (il l)) :
    ∃ r H', callInf cfg 21 [x] prot H = some (r, H') ∧ LR H' r l H.length ∧ Stay none H H' ∧ H'.length = H.length + 1 := by
  obtain ⟨aN, cN, rfl⟩ := hx.len
  obtain ⟨a, c, o, H1, q1, q2, q3, q4, q5⟩ := own_grow T34 (.inr rfl) hx (il_cell _) (prot := H.length) (room := true) (by omega)
  obtain ⟨HY, hHY⟩ : ∃ HY, HY = H1 ++ [AObj.cells [.int .i64 (-77), .int .i64 (-78)] 3 2 .row] := ⟨_, rfl⟩
  have hY : Rd HY 3 1 (.slice (some ⟨H1.length, 0, some (2 * 1)⟩) 2 2) 2 [.int .i64 (-77), .int .i64 (-78)] := by rw [hHY]; exact (own_new rfl (by omega) rfl rfl).rd
  have sY : Stay none H1 HY := by rw [hHY]; exact Stay.app none H1 _
  obtain ⟨o', H2, r1, r2, r3, r4, r5⟩ := own_appR T34 (q2.stay sY (fun id _ h => by cases h)) hY (by omega) rfl (prot := H.length) (room := true) q4 (by omega)
  have ho' : H.length ≤ o' := by
    cases o with
    | none => rw [r5 rfl]; have := q3.1; have := sY.1; omega
    | some id => rw [r4 id rfl]; exact q4 id rfl
  obtain ⟨h1, h2, h3, wr, h4, h5⟩ := r2
  have hlen := lentC_len l
  have hpf : gc H [.slice (some ⟨o', 0, some (lentC l).length⟩) l.length (l.length + 2)] H2 = (.slice (some ⟨H.length, 0, some (lentC l).length⟩) l.length (l.length + 2), H ++ [.cells (lentC l) 3 wr .row]) := by
    unfold gc
    have hnd : noDup (sliceIds [.slice (some ⟨o', 0, some (lentC l).length⟩) l.length (l.length + 2)]) = true := rfl
    rw [if_pos hnd]
    have h5' : H2[o']? = some (.cells (lentC l) 3 wr .row) := h5
    have hall : (lentC l).all plain0 = true := by unfold lentC; rw [List.all_append, il_plain]; rfl
    simp only [keepAll, keep1]
    rw [if_neg (by omega), h5']
    simp [hall]
    rfl
  rw [hlen] at hpf
  refine ⟨_, _, ?_, ⟨rfl, wr, .row, by rw [← hlen]; exact h4, append_get.1⟩, Stay.app none H _, by simp⟩
  have hsl : aslice cfg.P 24 (.slice (some ⟨o', 0, some ((l.length + 2) * 1)⟩) (l.length + 2) (l.length + 2)) none (some (.int .i64 (l.length : Int))) none H2 = some (.slice (some ⟨o', 0, some (l.length + 2)⟩) l.length (l.length + 2)) := by
    unfold aslice
    simp only [T34.un, boundOf, Option.bind_some, T34.sz]
    rw [if_pos (by omega)]
    simp
  subst hHY
  exact f21_F_0 _ _ q1 r1 hsl (by rw [pfin_eq]; exact hpf)

/-- Are lists the same? -/
theorem loop27 {l m : List Int} (hlm : l.length = m.length) (hl : l.length ≤ 140737488355328) {x y : Value} {H0 H : AHeap} {prot : Nat} (hx : Rd H 3 1 x l.length (il l)) (hy : Rd H 3 1 y m.length (il m)) : ∀ (d i : Nat), i + d = l.length →
    lpInf (lpOf cfg a10 0 prot H0) ([x, y, .int .i64 i], H) = some (if l.drop i = m.drop i then (.exit 0, [.tuple #[]], H) else (.ret, [.bool false], H))
  | 0, i, hi => by
    rw [List.drop_of_length_le (by omega), List.drop_of_length_le (by omega), if_pos rfl]
    obtain ⟨_, _, rfl⟩ := hx.len
    obtain ⟨_, _, rfl⟩ := hy.len
    exact lp_last (f10_L0_2 (by omega))
  | d + 1, i, hi => by
    have h1 : i < l.length := by omega
    have h2 : i < m.length := by omega
    obtain ⟨i1, L1, p1, q1⟩ := rd_at T34 hx (il_get h1)
    obtain ⟨i2, L2, p2, q2⟩ := rd_at T34 hy (il_get h2)
    have ih := loop27 hlm hl hx hy (H0 := H0) (prot := prot) d (i + 1) (by omega)
    rw [List.drop_eq_getElem_cons h1, List.drop_eq_getElem_cons h2]
    obtain ⟨_, _, rfl⟩ := hx.len
    obtain ⟨_, _, rfl⟩ := hy.len
    by_cases e : l[i] = m[i]
    · rw [e] at q1
      have e2 : (if l[i] :: l.drop (i + 1) = m[i] :: m.drop (i + 1) then ((Ex.exit 0, [Value.tuple #[]], H) : Ex × List Value × AHeap) else (.ret, [.bool false], H)) = (if l.drop (i + 1) = m.drop (i + 1) then (.exit 0, [.tuple #[]], H) else (.ret, [.bool false], H)) := by
        by_cases hh : l.drop (i + 1) = m.drop (i + 1)
        · rw [if_pos hh, if_pos (by rw [e, hh])]
        · rw [if_neg hh, if_neg (fun h => hh (List.cons.inj h).2)]
      rw [e2]
      exact lp_next (f10_L0_1 (by omega) p1 q1 p2 q2 (by simp) (fit64 (by omega) (by omega))) ih
    · rw [if_neg (by intro h; exact e (List.cons.inj h).1)]
      exact lp_last (f10_L0_0 (by omega) p1 q1 p2 q2 (by simpa using e))
theorem c27 {l m : List Int} (hl : l.length ≤ 140737488355328) {x y : Value} (prot : Nat) {H : AHeap} (hx : Rd H 3 1 x l.length (il l)) (hy : Rd H 3 1 y m.length (il m)) :
    callInf cfg 10 [x, y] prot H = some (.bool (decide (l = m)), H) := by
  have h := hx.len
  have h' := hy.len
  by_cases e : l.length = m.length
  · have hlp := loop27 e hl hx hy (H0 := H) (prot := prot) l.length 0 (by omega)
    simp only [List.drop_zero] at hlp
    obtain ⟨_, _, rfl⟩ := h
    obtain ⟨_, _, rfl⟩ := h'
    by_cases e2 : l = m
    · rw [if_pos e2] at hlp
      rw [decide_eq_true e2]
      exact f10_F_1 (by simp [e]) hlp
    · rw [if_neg e2] at hlp
      rw [decide_eq_false e2]
      exact f10_F_2 (by simp [e]) hlp
  · rw [decide_eq_false (fun h => e (by rw [h]))]
    obtain ⟨_, _, rfl⟩ := h
    obtain ⟨_, _, rfl⟩ := h'
    exact f10_F_0 (by simp; omega)

/-- Is it as it was? -/
theorem c35 {l : List Int} (hl : l.length * 8 + 16 ≤ 140737488355328) {x y : Value} {id : Nat} (prot : Nat) {H : AHeap} (hx : LR H x l id) (hy : Rd H 3 1 y l.length (il l)) :
    callInf cfg 32 [x, y] prot H = some (.bool true, H) := by
  obtain ⟨wr, md, h1, h2⟩ := hx.g
  have hrd := hx.rd
  have hxe := hx.e
  have s1 : aslice cfg.P 24 x none (some (.int .i64 ((l.length : Int) + 2))) none H = some (.slice (some ⟨id, 0, some (l.length + 2)⟩) (l.length + 2) (l.length + 2)) := by
    rw [hxe]
    unfold aslice
    simp only [T34.un, boundOf, Option.bind_some, T34.sz]
    rw [if_pos (by omega)]
    simp only [Option.bind_some]
    rw [if_pos (by omega), if_pos (by omega)]
    simp
    omega
  have s2 : aslice cfg.P 24 (.slice (some ⟨id, 0, some (l.length + 2)⟩) (l.length + 2) (l.length + 2)) none (some (.int .i64 (l.length : Int))) none H = some x := by
    rw [hxe]
    unfold aslice
    simp only [T34.un, boundOf, Option.bind_some, T34.sz]
    rw [if_pos (by omega)]
    simp
  have hall : Rd H 3 1 (.slice (some ⟨id, 0, some (l.length + 2)⟩) (l.length + 2) (l.length + 2)) (l.length + 2) (lentC l) :=
    ⟨by rw [lentC_len]; omega, .inr ⟨id, l.length + 2, wr, md, _, lentC l, rfl, h1, by rw [lentC_len]; exact Nat.le_refl _, by omega, h2, by rw [List.take_of_length_le (by rw [lentC_len]; omega)]⟩⟩
  have g1 : (lentC l)[l.length]? = some (.int .i64 (-77)) := by unfold lentC; rw [List.getElem?_append_right (by simp [il])]; simp [il]
  have g2 : (lentC l)[l.length + 1]? = some (.int .i64 (-78)) := by unfold lentC; rw [List.getElem?_append_right (by simp [il])]; simp [il]
  obtain ⟨i1, L1, p1, q1⟩ := rd_at T34 hall g1
  obtain ⟨i2, L2, p2, q2⟩ := rd_at T34 hall g2
  have h27 := c27 (by omega) H.length hrd hy
  rw [decide_eq_true rfl] at h27
  obtain ⟨_, _, rfl⟩ := hy.len
  subst hxe
  exact f32_F_0 (x31 := -78) (fit64 (by omega) (by omega)) s1 s2 h27 rfl p1 q1 rfl (fit64 (by omega) (by omega)) (by exact_mod_cast p2) q2
end Go.Proofs.YtkemihfaohkoeaaDoor.Am11d
set_option linter.unusedVariables false
open Go Go.Proofs.YtkemihfaohkoeaaDoor.Am
namespace Go.Proofs.YtkemihfaohkoeaaDoor.Am11d
end Go.Proofs.YtkemihfaohkoeaaDoor.Am11d
namespace Go.Proofs.YtkemihfaohkoeaaDoor.Am11d
open Go Go.Proofs.YtkemihfaohkoeaaDoor.Am
theorem loop34i {G : List (List Int)} (hG : Good G) {H0 : AHeap} {x0 : Value} (hg : Gr H0 x0 G) {v : Nat} (hv : v < G.length) {x3 : Value} {o3 prot rest : Nat} : ∀ (d i : Nat) (T : Nat → List Nat) (r : Nat → Value) (o : Nat → Option Nat) (H : AHeap), i + d = G[v].length → Out H0.length H x3 G.length r o o3 T → Stay none H0 H → (∀ j, (T j).length + (d + rest) ≤ 1048576) →
    ∃ r' o' H', lpInf (lpOf cfg a29 1 prot H0) ([x0, x3, .int .i64 v, .int .i64 i], H) = some (.exit 2, [x0, x3, .int .i64 v], H') ∧ Out H0.length H' x3 G.length r' o' o3 (goRow v ((sc G v).drop i) T) ∧ Stay none H0 H' ∧ ∀ j, (goRow v ((sc G v).drop i) T j).length + rest ≤ 1048576
  | 0, i, T, r, o, H, hi, hO, hst, hb => by
    have hl := sc_len hv
    obtain ⟨id, L, y, a1, a2, a3⟩ := (hg.stay hst).row hv
    rw [List.drop_of_length_le (by omega)]
    refine ⟨r, o, H, ?_, hO, hst, fun j => by have := hb j; simp only [goRow]; omega⟩
    obtain ⟨_, _, rfl⟩ := hg.len
    obtain ⟨_, _, rfl⟩ := a3.len
    obtain ⟨_, _, rfl⟩ := hO.x3.len
    exact lp_last (f29_L1_1 a1 a2 (by omega))
  | d + 1, i, T, r, o, H, hi, hO, hst, hb => by
    have hil : i < G[v].length := by omega
    have hl := sc_len hv
    have hsh := hG.2.1 _ (List.getElem_mem hv)
    obtain ⟨u, hue, hul, hsc⟩ := sc_get hG hv hil
    obtain ⟨id0, L0, y, b1, b2, b3⟩ := (hg.stay hst).row hv
    obtain ⟨id, L, a1, a2⟩ := rd_at T34 b3 (il_get hil)
    rw [hue] at a2
    have hbu := hb u
    obtain ⟨a', c', H2, H3, id3, L3, p1, p2, p3, p4, ⟨r', o', p5⟩, p6, p7⟩ := hO.app hul v (room := false) (by omega) hst.1
    have hst3 : Stay none H0 H3 := keep_stay (fun q hq => (p6 q hq).trans (hst.2 q hq (by simp))) p7
    obtain ⟨r2, o2, H', z1, z2, z3, z4⟩ := loop34i hG hg hv (prot := prot) (rest := rest) d (i + 1) (addE T u v) r' o' H3 (by omega) p5 hst3 (fun j => by have := hb j; have := addE_len (T := T) (u := u) (v := v) (j := j); omega)
    have hdrop : (sc G v).drop i = u :: (sc G v).drop (i + 1) := by
      rw [List.drop_eq_getElem_cons (by omega)]
      rw [List.getElem?_eq_getElem (by omega)] at hsc
      rw [Option.some.inj hsc]
    rw [hdrop]
    refine ⟨r2, o2, H', ?_, z2, z3, z4⟩
    have hrl := (hO.rx u hul).len
    obtain ⟨_, _, rfl⟩ := hg.len
    obtain ⟨_, _, rfl⟩ := b3.len
    obtain ⟨_, _, rfl⟩ := hO.x3.len
    obtain ⟨_, _, hre⟩ := hrl
    rw [hre] at p2 p3
    exact lp_next (f29_L1_0 b1 b2 (by omega) b1 b2 a1 a2 b1 b2 a1 a2 p1 p2 p3 p1 rfl p4 (fit64 (by omega) (by omega))) z1
theorem loop34o {G : List (List Int)} (hG : Good G) {H0 : AHeap} {x0 : Value} (hg : Gr H0 x0 G) {x3 : Value} {o3 prot : Nat} : ∀ (d v : Nat) (T : Nat → List Nat) (r : Nat → Value) (o : Nat → Option Nat) (H : AHeap), v + d = G.length → Out H0.length H x3 G.length r o o3 T → Stay none H0 H → (∀ j, (T j).length + lens (G.drop v) ≤ 1048576) →
    ∃ r' o' H', lpInf (lpOf cfg a29 0 prot H0) ([x0, x3, .int .i64 v], H) = some (.exit 0, [x3], H') ∧ Out H0.length H' x3 G.length r' o' o3 (goAll G d v T) ∧ Stay none H0 H' ∧ ∀ j, (goAll G d v T j).length ≤ 1048576
  | 0, v, T, r, o, H, hv, hO, hst, hb => by
    refine ⟨r, o, H, ?_, hO, hst, fun j => by have := hb j; simp only [goAll]; omega⟩
    obtain ⟨_, _, rfl⟩ := hg.len
    obtain ⟨_, _, rfl⟩ := hO.x3.len
    exact lp_last (f29_L0_1 (by omega))
  | d + 1, v, T, r, o, H, hv, hO, hst, hb => by
    have hvl : v < G.length := by omega
    have h5 := hG.1
    have hsplit : lens (G.drop v) = G[v].length + lens (G.drop (v + 1)) := by
      unfold lens
      rw [List.drop_eq_getElem_cons hvl, List.map_cons, List.sum_cons]
    obtain ⟨r1, o1, H1, y1, y2, y3, y4⟩ := loop34i hG hg hvl (x3 := x3) (o3 := o3) (prot := prot) (rest := lens (G.drop (v + 1))) G[v].length 0 T r o H (by omega) hO hst (fun j => by have := hb j; omega)
    rw [List.drop_zero] at y2 y4
    obtain ⟨r2, o2, H', z1, z2, z3, z4⟩ := loop34o hG hg (x3 := x3) (o3 := o3) (prot := prot) d (v + 1) _ r1 o1 H1 (by omega) y2 y3 y4
    refine ⟨r2, o2, H', ?_, z2, z3, z4⟩
    obtain ⟨_, _, rfl⟩ := hg.len
    obtain ⟨_, _, rfl⟩ := hO.x3.len
    exact lp_next (f29_L0_0 (by omega) y1 (fit64 (by omega) (by omega))) z1
theorem c34 {G : List (List Int)} (hG : Good G) (hE : lens G ≤ 1048576) {vG : Value} (prot : Nat) {H : AHeap} (hg : Gr H vG G) : ∃ x' H', callInf cfg 29 [vG] prot H = some (x', H') ∧ Mine H.length H' x' G.length (turnT G) ∧ Stay none H H' := by
  have h5 := hG.1
  obtain ⟨HA, hHA⟩ : ∃ HA, HA = H ++ [AObj.cells (repCells [.slice none 0 0] G.length) 24 (repCells [.slice none 0 0] G.length).length .row] := ⟨_, rfl⟩
  have sA : Stay none H HA := by rw [hHA]; exact Stay.app none H _
  have key : ∃ x1 H1, lpInf (lpOf cfg a29 0 prot H) ([vG, .slice (some ⟨H.length, 0, some (G.length * 1)⟩) G.length G.length, .int .i64 0], HA) = some (.exit 0, [x1], H1) ∧ Mine H.length H1 x1 G.length (turnT G) ∧ Stay none H H1 := by
    by_cases h0 : 0 < G.length
    · have hO := out_start h0 H
      rw [← hHA] at hO
      obtain ⟨r', o', H1, z1, z2, z3, z4⟩ := loop34o hG hg (prot := prot) G.length 0 _ _ _ HA (by omega) hO sA (fun j => by simpa [lens] using hE)
      exact ⟨_, H1, z1, ⟨.inl ⟨r', o', _, z2⟩⟩, z3⟩
    · have hn : G = [] := List.eq_nil_of_length_eq_zero (by omega)
      subst hn
      obtain ⟨_, _, rfl⟩ := hg.len
      refine ⟨_, HA, lp_last (f29_L0_1 (by decide)), ⟨.inr ⟨rfl, H.length, rfl, Nat.le_refl _, ?_⟩⟩, sA⟩
      rw [hHA]
      exact append_get.1
  obtain ⟨x1, H2, y1, y3, y4⟩ := key
  obtain ⟨x', H', g1, g2, g3⟩ := gc_mine y3 y4 (ps := []) rfl
  refine ⟨x', H', ?_, g2, g3⟩
  obtain ⟨_, hx1, _⟩ := y3.rd
  obtain ⟨_, _, hxe⟩ := hx1.len
  obtain ⟨_, _, rfl⟩ := hg.len
  subst hxe
  subst hHA
  exact f29_F_0 _ _ (by omega) rfl (by omega) (by omega) y1 (by rw [pfin_eq, if_neg (by simp [a29])]; exact g1)
end Go.Proofs.YtkemihfaohkoeaaDoor.Am11d
set_option linter.unusedVariables false
open Go Go.Proofs.YtkemihfaohkoeaaDoor.Am
namespace Go.Proofs.YtkemihfaohkoeaaDoor.Am11d
theorem f28_F_0 {x0a : Option Addr} {x0n x0c : Nat} {x1 : Int} {H : AHeap} {prot : Nat} {z0a : Option Addr} {z0n z0c : Nat} {z1 : Int} {z5a : Option Addr} {z5n z5c : Nat} {H1 : AHeap} {x25p x25o x25l : Nat} {H2 : AHeap} {z5a_2 : Option Addr} {z5n_2 z5c_2 : Nat} {H3 : AHeap} (rv : Value) (rH : AHeap) (h1 : 0 ≤ (↑x0n : Int)) (h2 : (↑x0n : Int) = (↑x0n : Int)) (h3 : (↑x0n : Int) ≤ 9223372036854775807) (h4 : (↑8 : Int) * (↑x0n : Int) ≤ 2 ^ 48) (h5 : lpInf (lpOf cfg a28 0 prot H) ([Value.slice x0a x0n x0c, Value.int .i64 x1, Value.slice (some ⟨List.length H, 0, some ((↑x0n : Int).toNat * 1)⟩) (↑x0n : Int).toNat (↑x0n : Int).toNat, Value.int .i64 0], H ++ [AObj.cells (repCells [Value.int .i64 0] (↑x0n : Int).toNat) 3 (repCells [Value.int .i64 0] (↑x0n : Int).toNat).length OMode.row]) = some (Ex.exit 0, [Value.slice z0a z0n z0c, Value.int .i64 z1, Value.slice z5a z5n z5c], H1)) (h6 : aindexAddr cfg.P 24 (Value.slice z5a z5n z5c) (Value.int .i64 z1) = some (Value.pointer (some ⟨x25p, x25o, some x25l⟩))) (h7 : [Value.int .i64 0].length = 1) (h8 : setCells H1 (List.length H) x25p x25l x25o [Value.int .i64 0] = some H2) (h9 : lpInf (lpOf cfg a28 1 prot H) ([Value.slice z0a z0n z0c, Value.slice z5a z5n z5c, Value.slice (some ⟨List.length H2, 0, some (1 * 1)⟩) 1 1, Value.int .i64 0], H2 ++ [wo [Value.int .i64 z1] 3]) = some (Ex.exit 2, [Value.slice z5a_2 z5n_2 z5c_2], H3)) (h10 : pfin a28 H [Value.slice z5a_2 z5n_2 z5c_2] H3 = (rv, rH)) : callInf cfg 28 [.slice x0a x0n x0c, .int .i64 x1] prot H = some (rv, rH) :=
  fn_of2 a28 [.e, .e, .lo (.exit 0, [.slice z0a z0n z0c, .int .i64 z1, .slice z5a z5n z5c], H1), .v (.pointer (some ⟨x25p, x25o, some x25l⟩)), .h H2, .e, .lo (.exit 2, [.slice z5a_2 z5n_2 z5c_2], H3)] (ai h1 (ai h2 (ai h3 (ai h4 (ai h5 (ai h6 (ai h7 (ai h8 (ai h9 h10))))))))) (by kernel_rfl) rfl
theorem f28_L0_0 {x0a : Option Addr} {x0n x0c : Nat} {x1 : Int} {x5a : Option Addr} {x5n x5c : Nat} {x6 : Int} {H0 : AHeap} {prot : Nat} {H : AHeap} {x22p x22o x22l : Nat} {H2 : AHeap} (h1 : x6 < (↑x5n : Int)) (h2 : aindexAddr cfg.P 24 (Value.slice x5a x5n x5c) (Value.int .i64 x6) = some (Value.pointer (some ⟨x22p, x22o, some x22l⟩))) (h3 : [Value.int .i64 (-1)].length = 1) (h4 : setCells H (List.length H0) x22p x22l x22o [Value.int .i64 (-1)] = some H2) (h5 : Fit .i64 (x6 + 1)) : lpOf cfg a28 0 prot H0 ([.slice x0a x0n x0c, .int .i64 x1, .slice x5a x5n x5c, .int .i64 x6], H) = some (Sum.inl ([Value.slice x0a x0n x0c, Value.int .i64 x1, Value.slice x5a x5n x5c, Value.int .i64 (x6 + 1)], H2)) :=
  lp_of2 [.e, .e, .b true, .v (.pointer (some ⟨x22p, x22o, some x22l⟩)), .h H2, .e] (ai (decide_eq_true h1) (ai h2 (ai h3 (ai h4 (ai h5 (Eq.refl (Sum.inl ([Value.slice x0a x0n x0c, Value.int .i64 x1, Value.slice x5a x5n x5c, Value.int .i64 (x6 + 1)], H2) : LS ⊕ LO))))))) (by kernel_rfl)
theorem f28_L0_1 {x0a : Option Addr} {x0n x0c : Nat} {x1 : Int} {x5a : Option Addr} {x5n x5c : Nat} {x6 : Int} {H0 : AHeap} {prot : Nat} {H : AHeap} (h1 : ¬(x6 < (↑x5n : Int))) : lpOf cfg a28 0 prot H0 ([.slice x0a x0n x0c, .int .i64 x1, .slice x5a x5n x5c, .int .i64 x6], H) = some (Sum.inr (Ex.exit 0, [Value.slice x0a x0n x0c, Value.int .i64 x1, Value.slice x5a x5n x5c], H)) :=
  lp_of2 [.e, .e, .b false] (ai (decide_eq_false h1) (Eq.refl (Sum.inr (Ex.exit 0, [Value.slice x0a x0n x0c, Value.int .i64 x1, Value.slice x5a x5n x5c], H) : LS ⊕ LO))) (by kernel_rfl)
theorem f28_L1_0 {x0a : Option Addr} {x0n x0c : Nat} {x5a : Option Addr} {x5n x5c : Nat} {x7a : Option Addr} {x7n x7c : Nat} {x8 : Int} {H0 : AHeap} {prot : Nat} {H : AHeap} {x36p x36o x36l : Nat} {x37 : Int} {z0a : Option Addr} {z0n z0c : Nat} {z5a : Option Addr} {z5n z5c : Nat} {z7a : Option Addr} {z7n z7c : Nat} {z8 : Int} {H2 : AHeap} (h1 : x8 < (↑x7n : Int)) (h2 : aindexAddr cfg.P 24 (Value.slice x7a x7n x7c) (Value.int .i64 x8) = some (Value.pointer (some ⟨x36p, x36o, some x36l⟩))) (h3 : getCells H x36p x36l x36o 1 = some [Value.int .i64 x37]) (h4 : lpInf (lpOf cfg a28 2 prot H0) ([Value.slice x0a x0n x0c, Value.slice x5a x5n x5c, Value.slice x7a x7n x7c, Value.int .i64 x8, Value.int .i64 x37, Value.int .i64 0], H) = some (Ex.exit 4, [Value.slice z0a z0n z0c, Value.slice z5a z5n z5c, Value.slice z7a z7n z7c, Value.int .i64 z8], H2)) (h5 : Fit .i64 (z8 + 1)) : lpOf cfg a28 1 prot H0 ([.slice x0a x0n x0c, .slice x5a x5n x5c, .slice x7a x7n x7c, .int .i64 x8], H) = some (Sum.inl ([Value.slice z0a z0n z0c, Value.slice z5a z5n z5c, Value.slice z7a z7n z7c, Value.int .i64 (z8 + 1)], H2)) :=
  lp_of2 [.e, .e, .b true, .v (.pointer (some ⟨x36p, x36o, some x36l⟩)), .v (.int .i64 x37), .lo (.exit 4, [.slice z0a z0n z0c, .slice z5a z5n z5c, .slice z7a z7n z7c, .int .i64 z8], H2), .e] (ai (decide_eq_true h1) (ai h2 (ai h3 (ai h4 (ai h5 (Eq.refl (Sum.inl ([Value.slice z0a z0n z0c, Value.slice z5a z5n z5c, Value.slice z7a z7n z7c, Value.int .i64 (z8 + 1)], H2) : LS ⊕ LO))))))) (by kernel_rfl)
theorem f28_L1_1 {x0a : Option Addr} {x0n x0c : Nat} {x5a : Option Addr} {x5n x5c : Nat} {x7a : Option Addr} {x7n x7c : Nat} {x8 : Int} {H0 : AHeap} {prot : Nat} {H : AHeap} (h1 : ¬(x8 < (↑x7n : Int))) : lpOf cfg a28 1 prot H0 ([.slice x0a x0n x0c, .slice x5a x5n x5c, .slice x7a x7n x7c, .int .i64 x8], H) = some (Sum.inr (Ex.exit 2, [Value.slice x5a x5n x5c], H)) :=
  lp_of2 [.e, .e, .b false] (ai (decide_eq_false h1) (Eq.refl (Sum.inr (Ex.exit 2, [Value.slice x5a x5n x5c], H) : LS ⊕ LO))) (by kernel_rfl)
theorem f28_L2_0 {x0a : Option Addr} {x0n x0c : Nat} {x5a : Option Addr} {x5n x5c : Nat} {x7a : Option Addr} {x7n x7c : Nat} {x8 x9 x10 : Int} {H0 : AHeap} {prot : Nat} {H : AHeap} {x41p x41o x41l : Nat} {x42a : Option Addr} {x42n x42c x50p x50o x50l : Nat} {x51a : Option Addr} {x51n x51c x53p x53o x53l : Nat} {x54 : Int} {x55p x55o x55l : Nat} {x56 : Int} {x61p x61o x61l : Nat} {x62a : Option Addr} {x62n x62c x64p x64o x64l : Nat} {x65 : Int} {x68p x68o x68l : Nat} {x69 : Int} {x71p x71o x71l : Nat} {H2 : AHeap} {x75p x75o x75l : Nat} {x76a : Option Addr} {x76n x76c x78p x78o x78l : Nat} {x79 : Int} {x81a : Option Addr} {x81n x81c : Nat} {H3 : AHeap} (h1 : aindexAddr cfg.P 22 (Value.slice x0a x0n x0c) (Value.int .i64 x9) = some (Value.pointer (some ⟨x41p, x41o, some x41l⟩))) (h2 : getCells H x41p x41l x41o 1 = some [Value.slice x42a x42n x42c]) (h3 : x10 < (↑x42n : Int)) (h4 : aindexAddr cfg.P 22 (Value.slice x0a x0n x0c) (Value.int .i64 x9) = some (Value.pointer (some ⟨x50p, x50o, some x50l⟩))) (h5 : getCells H x50p x50l x50o 1 = some [Value.slice x51a x51n x51c]) (h6 : aindexAddr cfg.P 24 (Value.slice x51a x51n x51c) (Value.int .i64 x10) = some (Value.pointer (some ⟨x53p, x53o, some x53l⟩))) (h7 : getCells H x53p x53l x53o 1 = some [Value.int .i64 x54]) (h8 : aindexAddr cfg.P 24 (Value.slice x5a x5n x5c) (Value.int .i64 x54) = some (Value.pointer (some ⟨x55p, x55o, some x55l⟩))) (h9 : getCells H x55p x55l x55o 1 = some [Value.int .i64 x56]) (h10 : x56 < 0) (h11 : aindexAddr cfg.P 22 (Value.slice x0a x0n x0c) (Value.int .i64 x9) = some (Value.pointer (some ⟨x61p, x61o, some x61l⟩))) (h12 : getCells H x61p x61l x61o 1 = some [Value.slice x62a x62n x62c]) (h13 : aindexAddr cfg.P 24 (Value.slice x62a x62n x62c) (Value.int .i64 x10) = some (Value.pointer (some ⟨x64p, x64o, some x64l⟩))) (h14 : getCells H x64p x64l x64o 1 = some [Value.int .i64 x65]) (h15 : aindexAddr cfg.P 24 (Value.slice x5a x5n x5c) (Value.int .i64 x9) = some (Value.pointer (some ⟨x68p, x68o, some x68l⟩))) (h16 : getCells H x68p x68l x68o 1 = some [Value.int .i64 x69]) (h17 : Fit .i64 (x69 + 1)) (h18 : aindexAddr cfg.P 24 (Value.slice x5a x5n x5c) (Value.int .i64 x65) = some (Value.pointer (some ⟨x71p, x71o, some x71l⟩))) (h19 : [Value.int .i64 (x69 + 1)].length = 1) (h20 : setCells H (List.length H0) x71p x71l x71o [Value.int .i64 (x69 + 1)] = some H2) (h21 : aindexAddr cfg.P 22 (Value.slice x0a x0n x0c) (Value.int .i64 x9) = some (Value.pointer (some ⟨x75p, x75o, some x75l⟩))) (h22 : getCells H2 x75p x75l x75o 1 = some [Value.slice x76a x76n x76c]) (h23 : aindexAddr cfg.P 24 (Value.slice x76a x76n x76c) (Value.int .i64 x10) = some (Value.pointer (some ⟨x78p, x78o, some x78l⟩))) (h24 : getCells H2 x78p x78l x78o 1 = some [Value.int .i64 x79]) (h25 : aappend cfg.P (List.length H0) true 24 24 (Value.slice x7a x7n x7c) (Value.slice (some ⟨List.length H2, 0, some (1 * 1)⟩) 1 1) (H2 ++ [wo [Value.int .i64 x79] 3]) = some (Value.slice x81a x81n x81c, H3)) (h26 : Fit .i64 (x10 + 1)) : lpOf cfg a28 2 prot H0 ([.slice x0a x0n x0c, .slice x5a x5n x5c, .slice x7a x7n x7c, .int .i64 x8, .int .i64 x9, .int .i64 x10], H) = some (Sum.inl ([Value.slice x0a x0n x0c, Value.slice x5a x5n x5c, Value.slice x81a x81n x81c, Value.int .i64 x8, Value.int .i64 x9, Value.int .i64 (x10 + 1)], H3)) :=
  lp_of2 [.v (.pointer (some ⟨x41p, x41o, some x41l⟩)), .v (.slice x42a x42n x42c), .e, .e, .b true, .v (.pointer (some ⟨x50p, x50o, some x50l⟩)), .v (.slice x51a x51n x51c), .v (.pointer (some ⟨x53p, x53o, some x53l⟩)), .v (.int .i64 x54), .v (.pointer (some ⟨x55p, x55o, some x55l⟩)), .v (.int .i64 x56), .e, .b true, .v (.pointer (some ⟨x61p, x61o, some x61l⟩)), .v (.slice x62a x62n x62c), .v (.pointer (some ⟨x64p, x64o, some x64l⟩)), .v (.int .i64 x65), .v (.pointer (some ⟨x68p, x68o, some x68l⟩)), .v (.int .i64 x69), .e, .v (.pointer (some ⟨x71p, x71o, some x71l⟩)), .h H2, .v (.pointer (some ⟨x75p, x75o, some x75l⟩)), .v (.slice x76a x76n x76c), .v (.pointer (some ⟨x78p, x78o, some x78l⟩)), .v (.int .i64 x79), .e, .r (.slice x81a x81n x81c) H3, .e] (ai h1 (ai h2 (ai (decide_eq_true h3) (ai h4 (ai h5 (ai h6 (ai h7 (ai h8 (ai h9 (ai (decide_eq_true h10) (ai h11 (ai h12 (ai h13 (ai h14 (ai h15 (ai h16 (ai h17 (ai h18 (ai h19 (ai h20 (ai h21 (ai h22 (ai h23 (ai h24 (ai h25 (ai h26 (Eq.refl (Sum.inl ([Value.slice x0a x0n x0c, Value.slice x5a x5n x5c, Value.slice x81a x81n x81c, Value.int .i64 x8, Value.int .i64 x9, Value.int .i64 (x10 + 1)], H3) : LS ⊕ LO)))))))))))))))))))))))))))) (by kernel_rfl)
theorem f28_L2_1 {x0a : Option Addr} {x0n x0c : Nat} {x5a : Option Addr} {x5n x5c : Nat} {x7a : Option Addr} {x7n x7c : Nat} {x8 x9 x10 : Int} {H0 : AHeap} {prot : Nat} {H : AHeap} {x41p x41o x41l : Nat} {x42a : Option Addr} {x42n x42c x50p x50o x50l : Nat} {x51a : Option Addr} {x51n x51c x53p x53o x53l : Nat} {x54 : Int} {x55p x55o x55l : Nat} {x56 : Int} (h1 : aindexAddr cfg.P 22 (Value.slice x0a x0n x0c) (Value.int .i64 x9) = some (Value.pointer (some ⟨x41p, x41o, some x41l⟩))) (h2 : getCells H x41p x41l x41o 1 = some [Value.slice x42a x42n x42c]) (h3 : x10 < (↑x42n : Int)) (h4 : aindexAddr cfg.P 22 (Value.slice x0a x0n x0c) (Value.int .i64 x9) = some (Value.pointer (some ⟨x50p, x50o, some x50l⟩))) (h5 : getCells H x50p x50l x50o 1 = some [Value.slice x51a x51n x51c]) (h6 : aindexAddr cfg.P 24 (Value.slice x51a x51n x51c) (Value.int .i64 x10) = some (Value.pointer (some ⟨x53p, x53o, some x53l⟩))) (h7 : getCells H x53p x53l x53o 1 = some [Value.int .i64 x54]) (h8 : aindexAddr cfg.P 24 (Value.slice x5a x5n x5c) (Value.int .i64 x54) = some (Value.pointer (some ⟨x55p, x55o, some x55l⟩))) (h9 : getCells H x55p x55l x55o 1 = some [Value.int .i64 x56]) (h10 : ¬(x56 < 0)) (h11 : Fit .i64 (x10 + 1)) : lpOf cfg a28 2 prot H0 ([.slice x0a x0n x0c, .slice x5a x5n x5c, .slice x7a x7n x7c, .int .i64 x8, .int .i64 x9, .int .i64 x10], H) = some (Sum.inl ([Value.slice x0a x0n x0c, Value.slice x5a x5n x5c, Value.slice x7a x7n x7c, Value.int .i64 x8, Value.int .i64 x9, Value.int .i64 (x10 + 1)], H)) :=
  lp_of2 [.v (.pointer (some ⟨x41p, x41o, some x41l⟩)), .v (.slice x42a x42n x42c), .e, .e, .b true, .v (.pointer (some ⟨x50p, x50o, some x50l⟩)), .v (.slice x51a x51n x51c), .v (.pointer (some ⟨x53p, x53o, some x53l⟩)), .v (.int .i64 x54), .v (.pointer (some ⟨x55p, x55o, some x55l⟩)), .v (.int .i64 x56), .e, .b false, .e] (ai h1 (ai h2 (ai (decide_eq_true h3) (ai h4 (ai h5 (ai h6 (ai h7 (ai h8 (ai h9 (ai (decide_eq_false h10) (ai h11 (Eq.refl (Sum.inl ([Value.slice x0a x0n x0c, Value.slice x5a x5n x5c, Value.slice x7a x7n x7c, Value.int .i64 x8, Value.int .i64 x9, Value.int .i64 (x10 + 1)], H) : LS ⊕ LO))))))))))))) (by kernel_rfl)
theorem f28_L2_2 {x0a : Option Addr} {x0n x0c : Nat} {x5a : Option Addr} {x5n x5c : Nat} {x7a : Option Addr} {x7n x7c : Nat} {x8 x9 x10 : Int} {H0 : AHeap} {prot : Nat} {H : AHeap} {x41p x41o x41l : Nat} {x42a : Option Addr} {x42n x42c : Nat} (h1 : aindexAddr cfg.P 22 (Value.slice x0a x0n x0c) (Value.int .i64 x9) = some (Value.pointer (some ⟨x41p, x41o, some x41l⟩))) (h2 : getCells H x41p x41l x41o 1 = some [Value.slice x42a x42n x42c]) (h3 : ¬(x10 < (↑x42n : Int))) : lpOf cfg a28 2 prot H0 ([.slice x0a x0n x0c, .slice x5a x5n x5c, .slice x7a x7n x7c, .int .i64 x8, .int .i64 x9, .int .i64 x10], H) = some (Sum.inr (Ex.exit 4, [Value.slice x0a x0n x0c, Value.slice x5a x5n x5c, Value.slice x7a x7n x7c, Value.int .i64 x8], H)) :=
  lp_of2 [.v (.pointer (some ⟨x41p, x41o, some x41l⟩)), .v (.slice x42a x42n x42c), .e, .e, .b false] (ai h1 (ai h2 (ai (decide_eq_false h3) (Eq.refl (Sum.inr (Ex.exit 4, [Value.slice x0a x0n x0c, Value.slice x5a x5n x5c, Value.slice x7a x7n x7c, Value.int .i64 x8], H) : LS ⊕ LO))))) (by kernel_rfl)
end Go.Proofs.YtkemihfaohkoeaaDoor.Am11d
namespace Go.Proofs.YtkemihfaohkoeaaDoor.Am11d
open Go Go.Proofs.YtkemihfaohkoeaaDoor.Am
/-! The document's far. -/
def farM (F : Nat → Nat) (N : Nat) : List Int := (List.range N).map fun u => (F u : Int) - 1
theorem farM_get {F : Nat → Nat} {N u : Nat} (h : u < N) : (il (farM F N))[u]? = some (.int .i64 ((F u : Int) - 1)) := by
  unfold il farM
  rw [List.getElem?_map, List.getElem?_map, List.getElem?_range h]; rfl
theorem farM_len (F : Nat → Nat) (N : Nat) : (farM F N).length = N := by simp [farM]
theorem farM_set {F : Nat → Nat} {N u : Nat} (c : Nat) (h : u < N) : (farM F N).set u ((c : Int) - 1) = farM (setF F u c) N := by
  unfold farM
  apply List.ext_getElem?
  intro x
  by_cases e : x = u
  · subst e
    rw [List.getElem?_set_self (by simp; exact h), List.getElem?_map, List.getElem?_range h]
    simp [setF]
  · rw [List.getElem?_set_ne (fun h => e h.symm), List.getElem?_map, List.getElem?_map]
    by_cases hx : x < N
    · rw [List.getElem?_range hx]; simp [setF, e]
    · rw [List.getElem?_eq_none (by simp; omega)]; rfl
theorem farM_congr {F K : Nat → Nat} {N : Nat} (h : ∀ u, u < N → F u = K u) : farM F N = farM K N := by
  unfold farM
  exact List.map_congr_left fun u hu => by rw [h u (List.mem_range.1 hu)]
/-- The search's memory. -/
structure PR (H0 H : AHeap) (N : Nat) (x10 x11 x12 : Value) (o10 o12 : Nat) (r : Nat → Value) (F : Nat → Nat) (Q : List Nat) (T : Nat → List Nat) : Prop where
  st : Stay none H0 H
  far : Own H 3 1 x10 (some o10) N (il (farM F N))
  q : Own H 3 1 x12 (some o12) Q.length (il (nl Q))
  b10 : H0.length ≤ o10
  b12 : H0.length ≤ o12
  ne : o10 ≠ o12
  bk : ∃ cs, Rd H 24 1 x11 N cs ∧ ∀ j, j < N → cs[j]? = some (r j) ∧ Rd H 3 1 (r j) (T j).length (il (nl (T j)))
  sf : ∀ j, j < N → ∀ id off L n c, r j = .slice (some ⟨id, off, some L⟩) n c → id ≠ o10 ∧ id ≠ o12
theorem PR.meet {H0 H : AHeap} {N : Nat} {x10 x11 x12 : Value} {o10 o12 : Nat} {r : Nat → Value} {F : Nat → Nat} {Q : List Nat} {T : Nat → List Nat} (h : PR H0 H N x10 x11 x12 o10 o12 r F Q T) {u : Nat} (hu : u < N) (c : Nat) (hQ : Q.length ≤ 512) :
    ∃ id L H2 a' c' H3, aindexAddr cfg.P 24 x10 (.int .i64 (u : Nat)) = some (.pointer (some ⟨id, u, some L⟩)) ∧ setCells H H0.length id L u [.int .i64 ((c : Int) - 1)] = some H2 ∧
      (∃ cs, Rd H2 24 1 x11 N cs ∧ ∀ j, j < N → cs[j]? = some (r j) ∧ Rd H2 3 1 (r j) (T j).length (il (nl (T j)))) ∧
      aappend cfg.P H0.length true 24 24 x12 (.slice (some ⟨H2.length, 0, some (1 * 1)⟩) 1 1) (H2 ++ [wo [.int .i64 (u : Int)] 3]) = some (.slice a' (Q.length + 1) c', H3) ∧
      PR H0 H3 N x10 x11 (.slice a' (Q.length + 1) c') o10 o12 r (setF F u c) (Q ++ [u]) T := by
  obtain ⟨id, H2, e, s1, s2, s3, s4, s5⟩ := own_setS T34 h.far (i := u) (j := 0) hu (vs := [.int .i64 ((c : Int) - 1)]) (by simp) rfl (prot := H0.length) (fun id e => by cases e; exact h.b10)
  cases e
  rw [put_il _ (by rw [farM_len]; exact hu), farM_set c hu] at s3
  rw [Nat.mul_one] at s1
  rw [Nat.mul_one, Nat.add_zero] at s2
  have hst2 := h.st.over s4 (fun id e => by cases e; exact h.b10)
  have hq2 := h.q.stay s4 (fun id e1 e2 => h.ne (by rw [← Option.some.inj e1] at e2; exact Option.some.inj e2))
  have hl2 := hst2.1
  obtain ⟨a', c', o', H3, q1, q2, q3, q4, q5, q6⟩ := own_app T34 hq2 (ecs := [.int .i64 (u : Int)]) rfl rfl (prot := H0.length) (room := true) (fun id e => by cases e; exact h.b12) (by omega) (by omega) (L := 1 * 1) rfl (el := [Value.int .i64 (u : Int)].length) rfl
  have e12 := q6 o12 rfl
  subst e12
  have hil : il (nl Q) ++ [Value.int .i64 (u : Int)] = il (nl (Q ++ [u])) := by simp [il, nl]
  rw [hil] at q2
  obtain ⟨cs, c1, c2⟩ := h.bk
  obtain ⟨_, _, _, w1, _, g1⟩ := h.far
  obtain ⟨_, _, _, w2, _, g2⟩ := hq2
  have c1' := c1.stayE g1 (by decide) s4
  have c2' : ∀ j, j < N → cs[j]? = some (r j) ∧ Rd H2 3 1 (r j) (T j).length (il (nl (T j))) := fun j hj => by
    obtain ⟨d1, d2⟩ := c2 j hj
    exact ⟨d1, d2.stayNe s4 (fun id off L n c e1 e2 => (h.sf j hj id off L n c e1).1 (Option.some.inj e2).symm)⟩
  refine ⟨_, _, H2, a', c', H3, s1, s2, ⟨cs, c1', c2'⟩, q1, ⟨hst2.over q3 (fun id e => by cases e; exact h.b12), ?_, by rw [List.length_append]; exact q2, h.b10, h.b12, h.ne, ?_, h.sf⟩⟩
  · exact s3.stay q3 (fun id e1 e2 => h.ne (by rw [← Option.some.inj e1] at e2; exact (Option.some.inj e2).symm))
  · refine ⟨cs, c1'.stayE g2 (by decide) q3, fun j hj => ?_⟩
    obtain ⟨d1, d2⟩ := c2' j hj
    exact ⟨d1, d2.stayNe q3 (fun id off L n c e1 e2 => (h.sf j hj id off L n c e1).2 (Option.some.inj e2).symm)⟩
theorem loop28i {G : List (List Int)} (h5 : G.length ≤ 512) {H0 : AHeap} {x10 x11 : Value} {t o10 o12 prot i w : Nat} {r : Nat → Value} (hw : w < G.length) (hlen : (turnT G w).length ≤ 1048576) : ∀ (d m : Nat) (F : Nat → Nat) (Q : List Nat) (x12 : Value) (H : AHeap), m + d = (turnT G w).length → PR H0 H G.length x10 x11 x12 o10 o12 r F Q (turnT G) → BI G t F Q i → i < Q.length → Q.getD i 0 = w → (∀ j u, j < m → (turnT G w)[j]? = some u → 0 < F u) →
    ∃ F' Q' y H', lpInf (lpOf cfg a28 2 prot H0) ([x11, x10, x12, .int .i64 i, .int .i64 w, .int .i64 m], H) = some (.exit 4, [x11, x10, y, .int .i64 i], H') ∧ PR H0 H' G.length x10 x11 y o10 o12 r F' Q' (turnT G) ∧ BI G t F' Q' i ∧ i < Q'.length ∧ Q'.getD i 0 = w ∧ ∀ u ∈ turnT G w, 0 < F' u
  | 0, m, F, Q, x12, H, hm, hP, hB, hi, hQw, hd => by
    refine ⟨F, Q, x12, H, ?_, hP, hB, hi, hQw, fun u hu => ?_⟩
    · obtain ⟨cs, c1, c2⟩ := hP.bk
      obtain ⟨d1, d2⟩ := c2 w hw
      obtain ⟨i1, L1, b1, b2⟩ := rd_at T22 c1 d1
      obtain ⟨_, _, hre⟩ := d2.len
      obtain ⟨_, _, rfl⟩ := c1.len
      obtain ⟨_, _, rfl⟩ := hP.far.len
      obtain ⟨_, _, rfl⟩ := hP.q.len
      rw [hre] at b2
      exact lp_last (f28_L2_2 b1 b2 (by omega))
    · obtain ⟨j, hj⟩ := List.getElem?_of_mem hu
      have := (List.getElem?_eq_some_iff.1 hj).1
      exact hd j u (by omega) hj
  | d + 1, m, F, Q, x12, H, hm, hP, hB, hi, hQw, hd => by
    have hml : m < (turnT G w).length := by omega
    have hcnt := hB.cnt
    obtain ⟨u, hu⟩ : ∃ u, (turnT G w)[m]? = some u := ⟨_, List.getElem?_eq_getElem hml⟩
    have humem := List.mem_of_getElem? hu
    obtain ⟨hul, hus⟩ := turn_mem.1 humem
    obtain ⟨cs, c1, c2⟩ := hP.bk
    obtain ⟨d1, d2⟩ := c2 w hw
    obtain ⟨i0, L0, r1, r2⟩ := rd_at T22 c1 d1
    have hget : (il (nl (turnT G w)))[m]? = some (.int .i64 ((u : Nat) : Int)) := by
      unfold il nl
      rw [List.getElem?_map, List.getElem?_map, hu]; rfl
    obtain ⟨i1, L1, a1, a2⟩ := rd_at T34 d2 hget
    obtain ⟨i2, L2, b1, b2⟩ := rd_at T34 hP.far.rd (farM_get hul)
    have fi : Fit .i64 ((m : Int) + 1) := fit64 (by omega) (by omega)
    obtain ⟨ar, cr, hre⟩ := d2.len
    by_cases hF : F u = 0
    · obtain ⟨i4, L4, g1, g2⟩ := rd_at T34 hP.far.rd (farM_get hw)
      have hbd := hB.bd w
      obtain ⟨id, L, H2, a', c', H3, k1, k2, ⟨cs2, k5, k6⟩, k3, k4⟩ := hP.meet hul (F w + 1) (by omega)
      obtain ⟨e1, e2⟩ := k6 w hw
      obtain ⟨j1, M1, p1, p2⟩ := rd_at T22 k5 e1
      obtain ⟨j2, M2, q1, q2⟩ := rd_at T34 e2 hget
      have hB2 := hB.meet hi hul hF (by rw [hQw]; exact hus)
      rw [hQw] at hB2
      have pos : ∀ x, 0 < F x → 0 < setF F u (F w + 1) x := fun x hx => by unfold setF; split <;> omega
      obtain ⟨F', Q', y, H', z1, z2⟩ := loop28i h5 (t := t) (prot := prot) hw hlen d (m + 1) _ _ _ H3 (by omega) k4 hB2 (by rw [List.length_append, List.length_singleton]; omega) (by rw [getD_snoc_lt hi]; exact hQw) (fun j x hj hx => by
        by_cases e : j = m
        · subst e
          rw [hu] at hx
          cases hx
          unfold setF
          rw [if_pos rfl]
          omega
        · exact pos x (hd j x (by omega) hx))
      refine ⟨F', Q', y, H', ?_, z2⟩
      obtain ⟨_, _, rfl⟩ := c1.len
      obtain ⟨_, _, rfl⟩ := hP.far.len
      obtain ⟨_, _, rfl⟩ := hP.q.len
      rw [hre] at a1 r2 p2 q1
      rw [show (((F w + 1 : Nat) : Int) - 1) = (F w : Int) - 1 + 1 by omega] at k2
      exact lp_next (f28_L2_0 r1 r2 (by omega) r1 r2 a1 a2 b1 b2 (by omega) r1 r2 a1 a2 g1 g2 (fit64 (by omega) (by omega)) k1 rfl k2 p1 p2 q1 q2 k3 fi) z1
    · obtain ⟨F', Q', y, H', z1, z2⟩ := loop28i h5 (t := t) (prot := prot) hw hlen d (m + 1) F Q x12 H (by omega) hP hB hi hQw (fun j x hj hx => by
        by_cases e : j = m
        · subst e
          rw [hu] at hx
          cases hx
          omega
        · exact hd j x (by omega) hx)
      refine ⟨F', Q', y, H', ?_, z2⟩
      obtain ⟨_, _, rfl⟩ := c1.len
      obtain ⟨_, _, rfl⟩ := hP.far.len
      obtain ⟨_, _, rfl⟩ := hP.q.len
      rw [hre] at a1 r2
      exact lp_next (f28_L2_1 r1 r2 (by omega) r1 r2 a1 a2 b1 b2 (by omega) fi) z1
theorem loop28o {G : List (List Int)} (h5 : G.length ≤ 512) (hlen : ∀ j, (turnT G j).length ≤ 1048576) {H0 : AHeap} {x10 x11 : Value} {t o10 o12 prot : Nat} {r : Nat → Value} : ∀ (d i : Nat) (F : Nat → Nat) (Q : List Nat) (x12 : Value) (H : AHeap), i + d = G.length + 1 → PR H0 H G.length x10 x11 x12 o10 o12 r F Q (turnT G) → BI G t F Q i →
    ∃ H', lpInf (lpOf cfg a28 1 prot H0) ([x11, x10, x12, .int .i64 i], H) = some (.exit 2, [x10], H') ∧ Own H' 3 1 x10 (some o10) G.length (il (farM (dt G t) G.length)) ∧ Stay none H0 H'
  | d, i, F, Q, x12, H, hi, hP, hB => by
    have hcnt := hB.cnt
    by_cases hlt : i < Q.length
    · cases d with
      | zero => omega
      | succ d =>
        have hw := hB.low (Q.getD i 0) (by rw [List.getD_eq_getElem?_getD, List.getElem?_eq_getElem hlt]; exact List.getElem_mem hlt)
        obtain ⟨i1, L1, a1, a2⟩ := rd_at T34 hP.q.rd (nl_at hlt)
        obtain ⟨F1, Q1, y, H1, z1, z2, z3, z4, z5, z6⟩ := loop28i h5 (t := t) (prot := prot) (i := i) hw (hlen _) (turnT G (Q.getD i 0)).length 0 F Q x12 H (by omega) hP hB hlt rfl (fun j u hj => by omega)
        have hnx := z3.next z4 (fun u hu => z6 u (turn_mem.2 ⟨?_, by rw [← z5]; exact hu⟩))
        · obtain ⟨H2, w1, w2⟩ := loop28o h5 hlen (t := t) (prot := prot) d (i + 1) F1 Q1 y H1 (by omega) z2 hnx
          refine ⟨H2, ?_, w2⟩
          obtain ⟨cs, c1, c2⟩ := hP.bk
          obtain ⟨_, _, rfl⟩ := c1.len
          obtain ⟨_, _, rfl⟩ := hP.far.len
          obtain ⟨_, _, rfl⟩ := hP.q.len
          obtain ⟨_, _, rfl⟩ := z2.q.len
          exact lp_next (f28_L1_0 (by omega) a1 a2 z1 (fit64 (by omega) (by omega))) w1
        · rcases Nat.lt_or_ge u G.length with h | h
          · exact h
          · unfold sc at hu
            rw [List.getD_eq_getElem?_getD, List.getElem?_eq_none h] at hu
            simp at hu
    · refine ⟨H, ?_, ?_, hP.st⟩
      · obtain ⟨cs, c1, c2⟩ := hP.bk
        obtain ⟨_, _, rfl⟩ := c1.len
        obtain ⟨_, _, rfl⟩ := hP.far.len
        obtain ⟨_, _, rfl⟩ := hP.q.len
        exact lp_last (f28_L1_1 (by omega))
      · rw [← farM_congr (F := F) (K := dt G t) (fun u _ => (hB.done u (by omega)).ff)]
        exact hP.far
def fil (N i : Nat) : List Int := (List.range N).map fun j => if j < i then -1 else 0
theorem fil_next {N i : Nat} (h : i < N) : (fil N i).set i (-1) = fil N (i + 1) := by
  unfold fil
  apply List.ext_getElem?
  intro x
  by_cases e : x = i
  · subst e
    rw [List.getElem?_set_self (by simp; exact h), List.getElem?_map, List.getElem?_range h]
    simp
  · rw [List.getElem?_set_ne (fun h => e h.symm), List.getElem?_map, List.getElem?_map]
    by_cases hx : x < N
    · rw [List.getElem?_range hx]
      have : (x < i + 1) ↔ x < i := by omega
      simp [this]
    · rw [List.getElem?_eq_none (by simp; omega)]; rfl
theorem loop28f {N : Nat} (hN : N ≤ 512) {G0 : AHeap} {x0 x5 : Value} (hx0 : ∃ a c, x0 = .slice a N c) {t o prot : Nat} (ho : G0.length ≤ o) : ∀ (d i : Nat) (H : AHeap), i + d = N → Own H 3 1 x5 (some o) N (il (fil N i)) → Stay none G0 H →
    ∃ H', lpInf (lpOf cfg a28 0 prot G0) ([x0, .int .i64 t, x5, .int .i64 i], H) = some (.exit 0, [x0, .int .i64 t, x5], H') ∧ Own H' 3 1 x5 (some o) N (il (fil N N)) ∧ Stay none G0 H'
  | 0, i, H, hi, hx, hst => by
    have : i = N := by omega
    subst this
    refine ⟨H, ?_, hx, hst⟩
    obtain ⟨_, _, rfl⟩ := hx0
    obtain ⟨_, _, rfl⟩ := hx.len
    exact lp_last (f28_L0_1 (by omega))
  | d + 1, i, H, hi, hx, hst => by
    obtain ⟨id, H2, e, s1, s2, s3, s4, s5⟩ := own_setS T34 hx (i := i) (j := 0) (by omega) (vs := [.int .i64 (-1)]) (by simp) rfl (prot := G0.length) (fun id e => by cases e; exact ho)
    cases e
    rw [put_il _ (by simp [fil]; omega), fil_next (by omega)] at s3
    rw [Nat.mul_one] at s1
    rw [Nat.mul_one, Nat.add_zero] at s2
    obtain ⟨H', z1, z2, z3⟩ := loop28f hN hx0 (t := t) (prot := prot) ho d (i + 1) H2 (by omega) s3 (hst.over s4 (fun id e => by cases e; exact ho))
    refine ⟨H', ?_, z2, z3⟩
    obtain ⟨_, _, rfl⟩ := hx0
    obtain ⟨_, _, rfl⟩ := hx.len
    exact lp_next (f28_L0_0 (by omega) s1 rfl s2 (fit64 (by omega) (by omega))) z1
/-- What far answers. -/
theorem cFar {G : List (List Int)} (hG : Good G) (hlen : ∀ j, (turnT G j).length ≤ 1048576) {xt : Value} (prot : Nat) {H : AHeap} (hm : ∃ cs, Rd H 24 1 xt G.length cs ∧ ∀ j, j < G.length → ∃ r, cs[j]? = some r ∧ Rd H 3 1 r (turnT G j).length (il (nl (turnT G j)))) {t : Nat} (ht : t < G.length) :
    ∃ x' H', callInf cfg 28 [xt, .int .i64 t] prot H = some (x', H') ∧ Rd H' 3 1 x' G.length (il (farM (dt G t) G.length)) ∧ Stay none H H' := by
  have h5 := hG.1
  have h0 : 0 < G.length := by omega
  obtain ⟨cs, c1, c2⟩ := hm
  obtain ⟨r, hr⟩ : ∃ r : Nat → Value, r = fun j => cs.getD j .nilFunc := ⟨_, rfl⟩
  have c2' : ∀ j, j < G.length → cs[j]? = some (r j) ∧ Rd H 3 1 (r j) (turnT G j).length (il (nl (turnT G j))) := fun j hj => by
    obtain ⟨y, y1, y2⟩ := c2 j hj
    have : r j = y := by rw [hr]; show cs.getD j .nilFunc = y; rw [List.getD_eq_getElem?_getD, y1]; rfl
    rw [this]; exact ⟨y1, y2⟩
  obtain ⟨HA, hHA⟩ : ∃ HA, HA = H ++ [AObj.cells (repCells [.int .i64 0] G.length) 3 (repCells [.int .i64 0] G.length).length .row] := ⟨_, rfl⟩
  have lA : HA.length = H.length + 1 := by rw [hHA, List.length_append, List.length_singleton]
  have sA : Stay none H HA := by rw [hHA]; exact Stay.app none H _
  have m : Own HA 3 1 (.slice (some ⟨H.length, 0, some (G.length * 1)⟩) G.length G.length) (some H.length) G.length (il (fil G.length 0)) := by
    rw [hHA]
    have := own_mk (e := 3) h0 H (.int .i64 0)
    have e1 : il (fil G.length 0) = List.replicate G.length (.int .i64 0) := by
      unfold il fil
      rw [List.map_map, List.eq_replicate_iff]
      refine ⟨by simp, fun b hb => ?_⟩
      obtain ⟨_, _, rfl⟩ := List.mem_map.1 hb
      rfl
    rw [e1]
    exact this
  obtain ⟨HB, f1, f2, f3⟩ := loop28f h5 c1.len (t := t) (prot := prot) (Nat.le_refl _) G.length 0 HA (by omega) m sA
  have e2 : fil G.length G.length = farM (fun _ => 0) G.length := by
    unfold fil farM
    exact List.map_congr_left fun u hu => by rw [if_pos (List.mem_range.1 hu)]; rfl
  rw [e2] at f2
  obtain ⟨id, HC, e, s1, s2, s3, s4, s5⟩ := own_setS T34 f2 (i := t) (j := 0) ht (vs := [.int .i64 (((1 : Nat) : Int) - 1)]) (by simp) rfl (prot := H.length) (fun id e => by cases e; exact Nat.le_refl _)
  cases e
  rw [put_il _ (by rw [farM_len]; exact ht), farM_set 1 ht] at s3
  rw [show t * 1 = t from Nat.mul_one t] at s1
  rw [show t * 1 + 0 = t from Nat.mul_one t] at s2
  have sC : Stay none H HC := f3.over s4 (fun id e => by cases e; exact Nat.le_refl _)
  have lC : H.length < HC.length := by
    obtain ⟨_, _, _, _, _, g⟩ := s3
    exact (List.getElem?_eq_some_iff.1 g).1
  obtain ⟨HD, hHD⟩ : ∃ HD, HD = HC ++ [wo [.int .i64 (t : Int)] 3] := ⟨_, rfl⟩
  have sD : Stay none HC HD := by rw [hHD]; exact Stay.app none HC _
  have hq : Own HD 3 1 (.slice (some ⟨HC.length, 0, some (1 * 1)⟩) 1 1) (some HC.length) [t].length (il (nl [t])) := by
    rw [hHD]
    exact own_new (e := 3) (s := 1) (n := 1) (cs := [.int .i64 (t : Int)]) rfl (by omega) rfl rfl
  have hP : PR H HD G.length (.slice (some ⟨H.length, 0, some (G.length * 1)⟩) G.length G.length) xt (.slice (some ⟨HC.length, 0, some (1 * 1)⟩) 1 1) H.length HC.length r (setF (fun _ => 0) t 1) [t] (turnT G) := by
    refine ⟨sC.trans sD, s3.stay sD (fun _ _ e => by cases e), hq, Nat.le_refl _, by omega, by omega, ⟨_, (c1.stay sC).stay sD, fun j hj => ⟨(c2' j hj).1, ((c2' j hj).2.stay sC).stay sD⟩⟩, fun j hj id off L n c e => ?_⟩
    have := (c2' j hj).2.low id off L n c e
    omega
  obtain ⟨HE, z1, z2, z3⟩ := loop28o h5 hlen (t := t) (prot := prot) (G.length + 1) 0 _ _ _ HD (by omega) hP (BI.start ht)
  obtain ⟨x2, H', g1, g2, g3⟩ := gcE (H := H) (.inl ⟨some H.length, z2, fun id e => by cases e; exact Nat.le_refl _⟩) (il_plain _) (ps := []) rfl
  refine ⟨x2, H', ?_, g2.rd, g3⟩
  subst hHD; subst hHA
  obtain ⟨_, _, rfl⟩ := c1.len
  exact f28_F_0 _ _ (by omega) rfl (by omega) (by omega) f1 s1 rfl s2 z1 (by rw [pfin_eq, if_neg (by simp [a28])]; exact g1)
end Go.Proofs.YtkemihfaohkoeaaDoor.Am11d
set_option linter.unusedVariables false
open Go Go.Proofs.YtkemihfaohkoeaaDoor.Am
namespace Go.Proofs.YtkemihfaohkoeaaDoor.Am11d
theorem f8_F_0 {x0a : Option Addr} {x0n x0c : Nat} {x1 x2 : Int} {H : AHeap} {prot : Nat} {x17 : Int} (h1 : callInf cfg 27 [Value.slice x0a x0n x0c] (List.length H) H = some (Value.int .i64 x17, H)) (h2 : (x17 != 0) = true) : callInf cfg 8 [.slice x0a x0n x0c, .int .i64 x1, .int .i64 x2] prot H = some (Value.tuple { toList := [Value.slice none 0 0, Value.bool false, Value.int .i64 x17] }, H) :=
  fn_of2 a8 [.v (.int .i64 x17), .e, .b true] (ai h1 (ai h2 (Eq.refl ((Value.tuple { toList := [Value.slice none 0 0, Value.bool false, Value.int .i64 x17] }, H) : Value × AHeap)))) (by kernel_rfl) rfl
theorem f8_F_1 {x0a : Option Addr} {x0n x0c : Nat} {x1 x2 : Int} {H : AHeap} {prot : Nat} {x17 : Int} (h1 : callInf cfg 27 [Value.slice x0a x0n x0c] (List.length H) H = some (Value.int .i64 x17, H)) (h2 : (x17 != 0) = false) (h3 : x1 < 0) : callInf cfg 8 [.slice x0a x0n x0c, .int .i64 x1, .int .i64 x2] prot H = some (Value.tuple { toList := [Value.slice none 0 0, Value.bool false, Value.int .i64 3] }, H) :=
  fn_of2 a8 [.v (.int .i64 x17), .e, .b false, .e, .b true, .b true, .b true, .b true, .b true, .b true, .b true, .b true, .b true, .b true, .b true, .b true, .b true, .b true] (ai h1 (ai h2 (ai (decide_eq_true h3) (ai (decide_eq_true h3) (ai (decide_eq_true h3) (ai (decide_eq_true h3) (ai (decide_eq_true h3) (ai (Eq.refl true) (ai (Eq.refl true) (ai (Eq.refl true) (ai (Eq.refl true) (ai (Eq.refl true) (ai (Eq.refl true) (ai (Eq.refl true) (ai (Eq.refl true) (ai (Eq.refl true) (Eq.refl ((Value.tuple { toList := [Value.slice none 0 0, Value.bool false, Value.int .i64 3] }, H) : Value × AHeap)))))))))))))))))) (by kernel_rfl) rfl
theorem f8_F_2 {x0a : Option Addr} {x0n x0c : Nat} {x1 x2 : Int} {H : AHeap} {prot : Nat} {x17 : Int} (h1 : callInf cfg 27 [Value.slice x0a x0n x0c] (List.length H) H = some (Value.int .i64 x17, H)) (h2 : (x17 != 0) = false) (h3 : ¬(x1 < 0)) (h4 : x1 ≥ (↑x0n : Int)) : callInf cfg 8 [.slice x0a x0n x0c, .int .i64 x1, .int .i64 x2] prot H = some (Value.tuple { toList := [Value.slice none 0 0, Value.bool false, Value.int .i64 3] }, H) :=
  fn_of2 a8 [.v (.int .i64 x17), .e, .b false, .e, .b false, .b false, .b false, .e, .b false, .e, .b false, .b true, .b true, .b true, .b true, .b true, .b true, .b true, .b true, .b true] (ai h1 (ai h2 (ai (decide_eq_false h3) (ai (decide_eq_false h3) (ai (decide_eq_false h3) (ai (decide_eq_false h3) (ai (decide_eq_false h3) (ai (decide_eq_true h4) (ai (decide_eq_true h4) (ai (decide_eq_true h4) (ai (Eq.refl true) (ai (Eq.refl true) (ai (Eq.refl true) (ai (Eq.refl true) (ai (Eq.refl true) (ai (Eq.refl true) (Eq.refl ((Value.tuple { toList := [Value.slice none 0 0, Value.bool false, Value.int .i64 3] }, H) : Value × AHeap)))))))))))))))))) (by kernel_rfl) rfl
theorem f8_F_3 {x0a : Option Addr} {x0n x0c : Nat} {x1 x2 : Int} {H : AHeap} {prot : Nat} {x17 : Int} (h1 : callInf cfg 27 [Value.slice x0a x0n x0c] (List.length H) H = some (Value.int .i64 x17, H)) (h2 : (x17 != 0) = false) (h3 : ¬(x1 < 0)) (h4 : ¬(x1 ≥ (↑x0n : Int))) (h5 : x2 < 0) : callInf cfg 8 [.slice x0a x0n x0c, .int .i64 x1, .int .i64 x2] prot H = some (Value.tuple { toList := [Value.slice none 0 0, Value.bool false, Value.int .i64 3] }, H) :=
  fn_of2 a8 [.v (.int .i64 x17), .e, .b false, .e, .b false, .b false, .b false, .e, .b false, .e, .b false, .b false, .b false, .e, .b false, .b true, .b true, .b true, .b true, .b true, .b true] (ai h1 (ai h2 (ai (decide_eq_false h3) (ai (decide_eq_false h3) (ai (decide_eq_false h3) (ai (decide_eq_false h3) (ai (decide_eq_false h3) (ai (decide_eq_false h4) (ai (decide_eq_false h4) (ai (decide_eq_false h4) (ai (decide_eq_true h5) (ai (decide_eq_true h5) (ai (decide_eq_true h5) (ai (decide_eq_true h5) (ai (decide_eq_true h5) (ai (Eq.refl true) (Eq.refl ((Value.tuple { toList := [Value.slice none 0 0, Value.bool false, Value.int .i64 3] }, H) : Value × AHeap)))))))))))))))))) (by kernel_rfl) rfl
theorem f8_F_4 {x0a : Option Addr} {x0n x0c : Nat} {x1 x2 : Int} {H : AHeap} {prot : Nat} {x17 : Int} (h1 : callInf cfg 27 [Value.slice x0a x0n x0c] (List.length H) H = some (Value.int .i64 x17, H)) (h2 : (x17 != 0) = false) (h3 : ¬(x1 < 0)) (h4 : ¬(x1 ≥ (↑x0n : Int))) (h5 : ¬(x2 < 0)) (h6 : x2 ≥ (↑x0n : Int)) : callInf cfg 8 [.slice x0a x0n x0c, .int .i64 x1, .int .i64 x2] prot H = some (Value.tuple { toList := [Value.slice none 0 0, Value.bool false, Value.int .i64 3] }, H) :=
  fn_of2 a8 [.v (.int .i64 x17), .e, .b false, .e, .b false, .b false, .b false, .e, .b false, .e, .b false, .b false, .b false, .e, .b false, .b false, .b false, .b false, .e, .b false, .e, .b false, .b true] (ai h1 (ai h2 (ai (decide_eq_false h3) (ai (decide_eq_false h3) (ai (decide_eq_false h3) (ai (decide_eq_false h3) (ai (decide_eq_false h3) (ai (decide_eq_false h4) (ai (decide_eq_false h4) (ai (decide_eq_false h4) (ai (decide_eq_false h5) (ai (decide_eq_false h5) (ai (decide_eq_false h5) (ai (decide_eq_false h5) (ai (decide_eq_false h5) (ai (decide_eq_true h6) (Eq.refl ((Value.tuple { toList := [Value.slice none 0 0, Value.bool false, Value.int .i64 3] }, H) : Value × AHeap)))))))))))))))))) (by kernel_rfl) rfl
theorem f8_F_5 {x0a : Option Addr} {x0n x0c : Nat} {x1 x2 : Int} {H : AHeap} {prot : Nat} {x17 : Int} {x40a : Option Addr} {x40n x40c : Nat} {H1 : AHeap} {x42a : Option Addr} {x42n x42c : Nat} {H2 : AHeap} {x45p x45o x45l : Nat} {x46 : Int} (h1 : callInf cfg 27 [Value.slice x0a x0n x0c] (List.length H) H = some (Value.int .i64 x17, H)) (h2 : (x17 != 0) = false) (h3 : ¬(x1 < 0)) (h4 : ¬(x1 ≥ (↑x0n : Int))) (h5 : ¬(x2 < 0)) (h6 : ¬(x2 ≥ (↑x0n : Int))) (h7 : callInf cfg 29 [Value.slice x0a x0n x0c] (List.length H) H = some (Value.slice x40a x40n x40c, H1)) (h8 : callInf cfg 28 [Value.slice x40a x40n x40c, Value.int .i64 x2] (List.length H) H1 = some (Value.slice x42a x42n x42c, H2)) (h9 : aindexAddr cfg.P 24 (Value.slice x42a x42n x42c) (Value.int .i64 x1) = some (Value.pointer (some ⟨x45p, x45o, some x45l⟩))) (h10 : getCells H2 x45p x45l x45o 1 = some [Value.int .i64 x46]) (h11 : x46 < 0) : callInf cfg 8 [.slice x0a x0n x0c, .int .i64 x1, .int .i64 x2] prot H = some (Value.tuple { toList := [Value.slice none 0 0, Value.bool false, Value.int .i64 0] }, H) :=
  fn_of2 a8 [.v (.int .i64 x17), .e, .b false, .e, .b false, .b false, .b false, .e, .b false, .e, .b false, .b false, .b false, .e, .b false, .b false, .b false, .b false, .e, .b false, .e, .b false, .b false, .r (.slice x40a x40n x40c) H1, .r (.slice x42a x42n x42c) H2, .v (.pointer (some ⟨x45p, x45o, some x45l⟩)), .v (.int .i64 x46), .e, .b true] (ai h1 (ai h2 (ai (decide_eq_false h3) (ai (decide_eq_false h3) (ai (decide_eq_false h3) (ai (decide_eq_false h3) (ai (decide_eq_false h3) (ai (decide_eq_false h4) (ai (decide_eq_false h4) (ai (decide_eq_false h4) (ai (decide_eq_false h5) (ai (decide_eq_false h5) (ai (decide_eq_false h5) (ai (decide_eq_false h5) (ai (decide_eq_false h5) (ai (decide_eq_false h6) (ai h7 (ai h8 (ai h9 (ai h10 (ai (decide_eq_true h11) (Eq.refl ((Value.tuple { toList := [Value.slice none 0 0, Value.bool false, Value.int .i64 0] }, H) : Value × AHeap))))))))))))))))))))))) (by kernel_rfl) rfl
theorem f8_F_6 {x0a : Option Addr} {x0n x0c : Nat} {x1 x2 : Int} {H : AHeap} {prot : Nat} {x17 : Int} {x40a : Option Addr} {x40n x40c : Nat} {H1 : AHeap} {x42a : Option Addr} {x42n x42c : Nat} {H2 : AHeap} {x45p x45o x45l : Nat} {x46 : Int} {z11a : Option Addr} {z11n z11c : Nat} {H3 : AHeap} (rv : Value) (rH : AHeap) (h1 : callInf cfg 27 [Value.slice x0a x0n x0c] (List.length H) H = some (Value.int .i64 x17, H)) (h2 : (x17 != 0) = false) (h3 : ¬(x1 < 0)) (h4 : ¬(x1 ≥ (↑x0n : Int))) (h5 : ¬(x2 < 0)) (h6 : ¬(x2 ≥ (↑x0n : Int))) (h7 : callInf cfg 29 [Value.slice x0a x0n x0c] (List.length H) H = some (Value.slice x40a x40n x40c, H1)) (h8 : callInf cfg 28 [Value.slice x40a x40n x40c, Value.int .i64 x2] (List.length H) H1 = some (Value.slice x42a x42n x42c, H2)) (h9 : aindexAddr cfg.P 24 (Value.slice x42a x42n x42c) (Value.int .i64 x1) = some (Value.pointer (some ⟨x45p, x45o, some x45l⟩))) (h10 : getCells H2 x45p x45l x45o 1 = some [Value.int .i64 x46]) (h11 : ¬(x46 < 0)) (h12 : lpInf (lpOf cfg a8 0 prot H) ([Value.slice x0a x0n x0c, Value.int .i64 x2, Value.slice x42a x42n x42c, Value.slice (some ⟨List.length H2, 0, some (1 * 1)⟩) 1 1, Value.int .i64 x1], H2 ++ [wo [Value.int .i64 x1] 3]) = some (Ex.exit 0, [Value.slice z11a z11n z11c], H3)) (h13 : pfin a8 H [Value.slice z11a z11n z11c, Value.bool true, Value.int .i64 0] H3 = (rv, rH)) : callInf cfg 8 [.slice x0a x0n x0c, .int .i64 x1, .int .i64 x2] prot H = some (rv, rH) :=
  fn_of2 a8 [.v (.int .i64 x17), .e, .b false, .e, .b false, .b false, .b false, .e, .b false, .e, .b false, .b false, .b false, .e, .b false, .b false, .b false, .b false, .e, .b false, .e, .b false, .b false, .r (.slice x40a x40n x40c) H1, .r (.slice x42a x42n x42c) H2, .v (.pointer (some ⟨x45p, x45o, some x45l⟩)), .v (.int .i64 x46), .e, .b false, .e, .lo (.exit 0, [.slice z11a z11n z11c], H3)] (ai h1 (ai h2 (ai (decide_eq_false h3) (ai (decide_eq_false h3) (ai (decide_eq_false h3) (ai (decide_eq_false h3) (ai (decide_eq_false h3) (ai (decide_eq_false h4) (ai (decide_eq_false h4) (ai (decide_eq_false h4) (ai (decide_eq_false h5) (ai (decide_eq_false h5) (ai (decide_eq_false h5) (ai (decide_eq_false h5) (ai (decide_eq_false h5) (ai (decide_eq_false h6) (ai h7 (ai h8 (ai h9 (ai h10 (ai (decide_eq_false h11) (ai h12 h13)))))))))))))))))))))) (by kernel_rfl) rfl
theorem f8_L0_0 {x0a : Option Addr} {x0n x0c : Nat} {x2 : Int} {x10a : Option Addr} {x10n x10c : Nat} {x11a : Option Addr} {x11n x11c : Nat} {x12 : Int} {H0 : AHeap} {prot : Nat} {H : AHeap} {z0a : Option Addr} {z0n z0c : Nat} {z2 : Int} {z10a : Option Addr} {z10n z10c : Nat} {z11a : Option Addr} {z11n z11c : Nat} {z13 : Int} {H2 : AHeap} {x94a : Option Addr} {x94n x94c : Nat} {H3 : AHeap} (h1 : (x12 != x2) = true) (h2 : lpInf (lpOf cfg a8 1 prot H0) ([Value.slice x0a x0n x0c, Value.int .i64 x2, Value.slice x10a x10n x10c, Value.slice x11a x11n x11c, Value.int .i64 x12, Value.int .i64 (-1), Value.int .i64 0], H) = some (Ex.exit 2, [Value.slice z0a z0n z0c, Value.int .i64 z2, Value.slice z10a z10n z10c, Value.slice z11a z11n z11c, Value.int .i64 z13], H2)) (h3 : aappend cfg.P (List.length H0) true 24 24 (Value.slice z11a z11n z11c) (Value.slice (some ⟨List.length H2, 0, some (1 * 1)⟩) 1 1) (H2 ++ [wo [Value.int .i64 z13] 3]) = some (Value.slice x94a x94n x94c, H3)) : lpOf cfg a8 0 prot H0 ([.slice x0a x0n x0c, .int .i64 x2, .slice x10a x10n x10c, .slice x11a x11n x11c, .int .i64 x12], H) = some (Sum.inl ([Value.slice z0a z0n z0c, Value.int .i64 z2, Value.slice z10a z10n z10c, Value.slice x94a x94n x94c, Value.int .i64 z13], H3)) :=
  lp_of2 [.e, .b true, .lo (.exit 2, [.slice z0a z0n z0c, .int .i64 z2, .slice z10a z10n z10c, .slice z11a z11n z11c, .int .i64 z13], H2), .e, .r (.slice x94a x94n x94c) H3] (ai h1 (ai h2 (ai h3 (Eq.refl (Sum.inl ([Value.slice z0a z0n z0c, Value.int .i64 z2, Value.slice z10a z10n z10c, Value.slice x94a x94n x94c, Value.int .i64 z13], H3) : LS ⊕ LO))))) (by kernel_rfl)
theorem f8_L0_1 {x0a : Option Addr} {x0n x0c : Nat} {x2 : Int} {x10a : Option Addr} {x10n x10c : Nat} {x11a : Option Addr} {x11n x11c : Nat} {x12 : Int} {H0 : AHeap} {prot : Nat} {H : AHeap} (h1 : (x12 != x2) = false) : lpOf cfg a8 0 prot H0 ([.slice x0a x0n x0c, .int .i64 x2, .slice x10a x10n x10c, .slice x11a x11n x11c, .int .i64 x12], H) = some (Sum.inr (Ex.exit 0, [Value.slice x11a x11n x11c], H)) :=
  lp_of2 [.e, .b false] (ai h1 (Eq.refl (Sum.inr (Ex.exit 0, [Value.slice x11a x11n x11c], H) : LS ⊕ LO))) (by kernel_rfl)
theorem f8_L1_0 {x0a : Option Addr} {x0n x0c : Nat} {x2 : Int} {x10a : Option Addr} {x10n x10c : Nat} {x11a : Option Addr} {x11n x11c : Nat} {x12 x13 x14 : Int} {H0 : AHeap} {prot : Nat} {H : AHeap} {x57p x57o x57l : Nat} {x58a : Option Addr} {x58n x58c x65p x65o x65l : Nat} {x66a : Option Addr} {x66n x66c x68p x68o x68l : Nat} {x69 : Int} {x72p x72o x72l : Nat} {x73 : Int} {x76p x76o x76l : Nat} {x77 : Int} (h1 : aindexAddr cfg.P 22 (Value.slice x0a x0n x0c) (Value.int .i64 x12) = some (Value.pointer (some ⟨x57p, x57o, some x57l⟩))) (h2 : getCells H x57p x57l x57o 1 = some [Value.slice x58a x58n x58c]) (h3 : x14 < (↑x58n : Int)) (h4 : aindexAddr cfg.P 22 (Value.slice x0a x0n x0c) (Value.int .i64 x12) = some (Value.pointer (some ⟨x65p, x65o, some x65l⟩))) (h5 : getCells H x65p x65l x65o 1 = some [Value.slice x66a x66n x66c]) (h6 : aindexAddr cfg.P 24 (Value.slice x66a x66n x66c) (Value.int .i64 x14) = some (Value.pointer (some ⟨x68p, x68o, some x68l⟩))) (h7 : getCells H x68p x68l x68o 1 = some [Value.int .i64 x69]) (h8 : aindexAddr cfg.P 24 (Value.slice x10a x10n x10c) (Value.int .i64 x69) = some (Value.pointer (some ⟨x72p, x72o, some x72l⟩))) (h9 : getCells H x72p x72l x72o 1 = some [Value.int .i64 x73]) (h10 : aindexAddr cfg.P 24 (Value.slice x10a x10n x10c) (Value.int .i64 x12) = some (Value.pointer (some ⟨x76p, x76o, some x76l⟩))) (h11 : getCells H x76p x76l x76o 1 = some [Value.int .i64 x77]) (h12 : Fit .i64 (x77 - 1)) (h13 : (x73 == x77 - 1) = true) (h14 : x13 < 0) (h15 : Fit .i64 (x14 + 1)) : lpOf cfg a8 1 prot H0 ([.slice x0a x0n x0c, .int .i64 x2, .slice x10a x10n x10c, .slice x11a x11n x11c, .int .i64 x12, .int .i64 x13, .int .i64 x14], H) = some (Sum.inl ([Value.slice x0a x0n x0c, Value.int .i64 x2, Value.slice x10a x10n x10c, Value.slice x11a x11n x11c, Value.int .i64 x12, Value.int .i64 x69, Value.int .i64 (x14 + 1)], H)) :=
  lp_of2 [.v (.pointer (some ⟨x57p, x57o, some x57l⟩)), .v (.slice x58a x58n x58c), .e, .e, .b true, .v (.pointer (some ⟨x65p, x65o, some x65l⟩)), .v (.slice x66a x66n x66c), .v (.pointer (some ⟨x68p, x68o, some x68l⟩)), .v (.int .i64 x69), .v (.pointer (some ⟨x72p, x72o, some x72l⟩)), .v (.int .i64 x73), .v (.pointer (some ⟨x76p, x76o, some x76l⟩)), .v (.int .i64 x77), .e, .e, .b true, .b true, .e, .b true, .b true, .b true, .b true, .b true, .b true, .b true, .b true, .e] (ai h1 (ai h2 (ai (decide_eq_true h3) (ai h4 (ai h5 (ai h6 (ai h7 (ai h8 (ai h9 (ai h10 (ai h11 (ai h12 (ai h13 (ai h13 (ai h13 (ai (decide_eq_true h14) (ai (decide_eq_true h14) (ai (decide_eq_true h14) (ai h13 (ai (decide_eq_true h14) (ai h13 (ai (Eq.refl true) (ai h15 (Eq.refl (Sum.inl ([Value.slice x0a x0n x0c, Value.int .i64 x2, Value.slice x10a x10n x10c, Value.slice x11a x11n x11c, Value.int .i64 x12, Value.int .i64 x69, Value.int .i64 (x14 + 1)], H) : LS ⊕ LO))))))))))))))))))))))))) (by kernel_rfl)
theorem f8_L1_1 {x0a : Option Addr} {x0n x0c : Nat} {x2 : Int} {x10a : Option Addr} {x10n x10c : Nat} {x11a : Option Addr} {x11n x11c : Nat} {x12 x13 x14 : Int} {H0 : AHeap} {prot : Nat} {H : AHeap} {x57p x57o x57l : Nat} {x58a : Option Addr} {x58n x58c x65p x65o x65l : Nat} {x66a : Option Addr} {x66n x66c x68p x68o x68l : Nat} {x69 : Int} {x72p x72o x72l : Nat} {x73 : Int} {x76p x76o x76l : Nat} {x77 : Int} (h1 : aindexAddr cfg.P 22 (Value.slice x0a x0n x0c) (Value.int .i64 x12) = some (Value.pointer (some ⟨x57p, x57o, some x57l⟩))) (h2 : getCells H x57p x57l x57o 1 = some [Value.slice x58a x58n x58c]) (h3 : x14 < (↑x58n : Int)) (h4 : aindexAddr cfg.P 22 (Value.slice x0a x0n x0c) (Value.int .i64 x12) = some (Value.pointer (some ⟨x65p, x65o, some x65l⟩))) (h5 : getCells H x65p x65l x65o 1 = some [Value.slice x66a x66n x66c]) (h6 : aindexAddr cfg.P 24 (Value.slice x66a x66n x66c) (Value.int .i64 x14) = some (Value.pointer (some ⟨x68p, x68o, some x68l⟩))) (h7 : getCells H x68p x68l x68o 1 = some [Value.int .i64 x69]) (h8 : aindexAddr cfg.P 24 (Value.slice x10a x10n x10c) (Value.int .i64 x69) = some (Value.pointer (some ⟨x72p, x72o, some x72l⟩))) (h9 : getCells H x72p x72l x72o 1 = some [Value.int .i64 x73]) (h10 : aindexAddr cfg.P 24 (Value.slice x10a x10n x10c) (Value.int .i64 x12) = some (Value.pointer (some ⟨x76p, x76o, some x76l⟩))) (h11 : getCells H x76p x76l x76o 1 = some [Value.int .i64 x77]) (h12 : Fit .i64 (x77 - 1)) (h13 : (x73 == x77 - 1) = true) (h14 : ¬(x13 < 0)) (h15 : x69 < x13) (h16 : Fit .i64 (x14 + 1)) : lpOf cfg a8 1 prot H0 ([.slice x0a x0n x0c, .int .i64 x2, .slice x10a x10n x10c, .slice x11a x11n x11c, .int .i64 x12, .int .i64 x13, .int .i64 x14], H) = some (Sum.inl ([Value.slice x0a x0n x0c, Value.int .i64 x2, Value.slice x10a x10n x10c, Value.slice x11a x11n x11c, Value.int .i64 x12, Value.int .i64 x69, Value.int .i64 (x14 + 1)], H)) :=
  lp_of2 [.v (.pointer (some ⟨x57p, x57o, some x57l⟩)), .v (.slice x58a x58n x58c), .e, .e, .b true, .v (.pointer (some ⟨x65p, x65o, some x65l⟩)), .v (.slice x66a x66n x66c), .v (.pointer (some ⟨x68p, x68o, some x68l⟩)), .v (.int .i64 x69), .v (.pointer (some ⟨x72p, x72o, some x72l⟩)), .v (.int .i64 x73), .v (.pointer (some ⟨x76p, x76o, some x76l⟩)), .v (.int .i64 x77), .e, .e, .b true, .b true, .e, .b true, .b false, .b false, .b false, .e, .b true, .b false, .b true, .b true, .e] (ai h1 (ai h2 (ai (decide_eq_true h3) (ai h4 (ai h5 (ai h6 (ai h7 (ai h8 (ai h9 (ai h10 (ai h11 (ai h12 (ai h13 (ai h13 (ai h13 (ai (decide_eq_false h14) (ai (decide_eq_false h14) (ai (decide_eq_false h14) (ai h13 (ai (decide_eq_false h14) (ai h13 (ai (decide_eq_true h15) (ai h16 (Eq.refl (Sum.inl ([Value.slice x0a x0n x0c, Value.int .i64 x2, Value.slice x10a x10n x10c, Value.slice x11a x11n x11c, Value.int .i64 x12, Value.int .i64 x69, Value.int .i64 (x14 + 1)], H) : LS ⊕ LO))))))))))))))))))))))))) (by kernel_rfl)
theorem f8_L1_2 {x0a : Option Addr} {x0n x0c : Nat} {x2 : Int} {x10a : Option Addr} {x10n x10c : Nat} {x11a : Option Addr} {x11n x11c : Nat} {x12 x13 x14 : Int} {H0 : AHeap} {prot : Nat} {H : AHeap} {x57p x57o x57l : Nat} {x58a : Option Addr} {x58n x58c x65p x65o x65l : Nat} {x66a : Option Addr} {x66n x66c x68p x68o x68l : Nat} {x69 : Int} {x72p x72o x72l : Nat} {x73 : Int} {x76p x76o x76l : Nat} {x77 : Int} (h1 : aindexAddr cfg.P 22 (Value.slice x0a x0n x0c) (Value.int .i64 x12) = some (Value.pointer (some ⟨x57p, x57o, some x57l⟩))) (h2 : getCells H x57p x57l x57o 1 = some [Value.slice x58a x58n x58c]) (h3 : x14 < (↑x58n : Int)) (h4 : aindexAddr cfg.P 22 (Value.slice x0a x0n x0c) (Value.int .i64 x12) = some (Value.pointer (some ⟨x65p, x65o, some x65l⟩))) (h5 : getCells H x65p x65l x65o 1 = some [Value.slice x66a x66n x66c]) (h6 : aindexAddr cfg.P 24 (Value.slice x66a x66n x66c) (Value.int .i64 x14) = some (Value.pointer (some ⟨x68p, x68o, some x68l⟩))) (h7 : getCells H x68p x68l x68o 1 = some [Value.int .i64 x69]) (h8 : aindexAddr cfg.P 24 (Value.slice x10a x10n x10c) (Value.int .i64 x69) = some (Value.pointer (some ⟨x72p, x72o, some x72l⟩))) (h9 : getCells H x72p x72l x72o 1 = some [Value.int .i64 x73]) (h10 : aindexAddr cfg.P 24 (Value.slice x10a x10n x10c) (Value.int .i64 x12) = some (Value.pointer (some ⟨x76p, x76o, some x76l⟩))) (h11 : getCells H x76p x76l x76o 1 = some [Value.int .i64 x77]) (h12 : Fit .i64 (x77 - 1)) (h13 : (x73 == x77 - 1) = true) (h14 : ¬(x13 < 0)) (h15 : ¬(x69 < x13)) (h16 : Fit .i64 (x14 + 1)) : lpOf cfg a8 1 prot H0 ([.slice x0a x0n x0c, .int .i64 x2, .slice x10a x10n x10c, .slice x11a x11n x11c, .int .i64 x12, .int .i64 x13, .int .i64 x14], H) = some (Sum.inl ([Value.slice x0a x0n x0c, Value.int .i64 x2, Value.slice x10a x10n x10c, Value.slice x11a x11n x11c, Value.int .i64 x12, Value.int .i64 x13, Value.int .i64 (x14 + 1)], H)) :=
  lp_of2 [.v (.pointer (some ⟨x57p, x57o, some x57l⟩)), .v (.slice x58a x58n x58c), .e, .e, .b true, .v (.pointer (some ⟨x65p, x65o, some x65l⟩)), .v (.slice x66a x66n x66c), .v (.pointer (some ⟨x68p, x68o, some x68l⟩)), .v (.int .i64 x69), .v (.pointer (some ⟨x72p, x72o, some x72l⟩)), .v (.int .i64 x73), .v (.pointer (some ⟨x76p, x76o, some x76l⟩)), .v (.int .i64 x77), .e, .e, .b true, .b true, .e, .b true, .b false, .b false, .b false, .e, .b true, .b false, .b true, .b false, .e] (ai h1 (ai h2 (ai (decide_eq_true h3) (ai h4 (ai h5 (ai h6 (ai h7 (ai h8 (ai h9 (ai h10 (ai h11 (ai h12 (ai h13 (ai h13 (ai h13 (ai (decide_eq_false h14) (ai (decide_eq_false h14) (ai (decide_eq_false h14) (ai h13 (ai (decide_eq_false h14) (ai h13 (ai (decide_eq_false h15) (ai h16 (Eq.refl (Sum.inl ([Value.slice x0a x0n x0c, Value.int .i64 x2, Value.slice x10a x10n x10c, Value.slice x11a x11n x11c, Value.int .i64 x12, Value.int .i64 x13, Value.int .i64 (x14 + 1)], H) : LS ⊕ LO))))))))))))))))))))))))) (by kernel_rfl)
theorem f8_L1_3 {x0a : Option Addr} {x0n x0c : Nat} {x2 : Int} {x10a : Option Addr} {x10n x10c : Nat} {x11a : Option Addr} {x11n x11c : Nat} {x12 x13 x14 : Int} {H0 : AHeap} {prot : Nat} {H : AHeap} {x57p x57o x57l : Nat} {x58a : Option Addr} {x58n x58c x65p x65o x65l : Nat} {x66a : Option Addr} {x66n x66c x68p x68o x68l : Nat} {x69 : Int} {x72p x72o x72l : Nat} {x73 : Int} {x76p x76o x76l : Nat} {x77 : Int} (h1 : aindexAddr cfg.P 22 (Value.slice x0a x0n x0c) (Value.int .i64 x12) = some (Value.pointer (some ⟨x57p, x57o, some x57l⟩))) (h2 : getCells H x57p x57l x57o 1 = some [Value.slice x58a x58n x58c]) (h3 : x14 < (↑x58n : Int)) (h4 : aindexAddr cfg.P 22 (Value.slice x0a x0n x0c) (Value.int .i64 x12) = some (Value.pointer (some ⟨x65p, x65o, some x65l⟩))) (h5 : getCells H x65p x65l x65o 1 = some [Value.slice x66a x66n x66c]) (h6 : aindexAddr cfg.P 24 (Value.slice x66a x66n x66c) (Value.int .i64 x14) = some (Value.pointer (some ⟨x68p, x68o, some x68l⟩))) (h7 : getCells H x68p x68l x68o 1 = some [Value.int .i64 x69]) (h8 : aindexAddr cfg.P 24 (Value.slice x10a x10n x10c) (Value.int .i64 x69) = some (Value.pointer (some ⟨x72p, x72o, some x72l⟩))) (h9 : getCells H x72p x72l x72o 1 = some [Value.int .i64 x73]) (h10 : aindexAddr cfg.P 24 (Value.slice x10a x10n x10c) (Value.int .i64 x12) = some (Value.pointer (some ⟨x76p, x76o, some x76l⟩))) (h11 : getCells H x76p x76l x76o 1 = some [Value.int .i64 x77]) (h12 : Fit .i64 (x77 - 1)) (h13 : (x73 == x77 - 1) = false) (h14 : Fit .i64 (x14 + 1)) : lpOf cfg a8 1 prot H0 ([.slice x0a x0n x0c, .int .i64 x2, .slice x10a x10n x10c, .slice x11a x11n x11c, .int .i64 x12, .int .i64 x13, .int .i64 x14], H) = some (Sum.inl ([Value.slice x0a x0n x0c, Value.int .i64 x2, Value.slice x10a x10n x10c, Value.slice x11a x11n x11c, Value.int .i64 x12, Value.int .i64 x13, Value.int .i64 (x14 + 1)], H)) :=
  lp_of2 [.v (.pointer (some ⟨x57p, x57o, some x57l⟩)), .v (.slice x58a x58n x58c), .e, .e, .b true, .v (.pointer (some ⟨x65p, x65o, some x65l⟩)), .v (.slice x66a x66n x66c), .v (.pointer (some ⟨x68p, x68o, some x68l⟩)), .v (.int .i64 x69), .v (.pointer (some ⟨x72p, x72o, some x72l⟩)), .v (.int .i64 x73), .v (.pointer (some ⟨x76p, x76o, some x76l⟩)), .v (.int .i64 x77), .e, .e, .b false, .b false, .b false, .b false, .b false, .b false, .e] (ai h1 (ai h2 (ai (decide_eq_true h3) (ai h4 (ai h5 (ai h6 (ai h7 (ai h8 (ai h9 (ai h10 (ai h11 (ai h12 (ai h13 (ai h13 (ai h13 (ai h13 (ai h13 (ai (Eq.refl false) (ai h14 (Eq.refl (Sum.inl ([Value.slice x0a x0n x0c, Value.int .i64 x2, Value.slice x10a x10n x10c, Value.slice x11a x11n x11c, Value.int .i64 x12, Value.int .i64 x13, Value.int .i64 (x14 + 1)], H) : LS ⊕ LO))))))))))))))))))))) (by kernel_rfl)
theorem f8_L1_4 {x0a : Option Addr} {x0n x0c : Nat} {x2 : Int} {x10a : Option Addr} {x10n x10c : Nat} {x11a : Option Addr} {x11n x11c : Nat} {x12 x13 x14 : Int} {H0 : AHeap} {prot : Nat} {H : AHeap} {x57p x57o x57l : Nat} {x58a : Option Addr} {x58n x58c : Nat} (h1 : aindexAddr cfg.P 22 (Value.slice x0a x0n x0c) (Value.int .i64 x12) = some (Value.pointer (some ⟨x57p, x57o, some x57l⟩))) (h2 : getCells H x57p x57l x57o 1 = some [Value.slice x58a x58n x58c]) (h3 : ¬(x14 < (↑x58n : Int))) : lpOf cfg a8 1 prot H0 ([.slice x0a x0n x0c, .int .i64 x2, .slice x10a x10n x10c, .slice x11a x11n x11c, .int .i64 x12, .int .i64 x13, .int .i64 x14], H) = some (Sum.inr (Ex.exit 2, [Value.slice x0a x0n x0c, Value.int .i64 x2, Value.slice x10a x10n x10c, Value.slice x11a x11n x11c, Value.int .i64 x13], H)) :=
  lp_of2 [.v (.pointer (some ⟨x57p, x57o, some x57l⟩)), .v (.slice x58a x58n x58c), .e, .e, .b false] (ai h1 (ai h2 (ai (decide_eq_false h3) (Eq.refl (Sum.inr (Ex.exit 2, [Value.slice x0a x0n x0c, Value.int .i64 x2, Value.slice x10a x10n x10c, Value.slice x11a x11n x11c, Value.int .i64 x13], H) : LS ⊕ LO))))) (by kernel_rfl)
end Go.Proofs.YtkemihfaohkoeaaDoor.Am11d
