/- A part of the proof of a given statement: Sp24_Alike, P24_18, P24_19, P24_12, Sp24_Pieces. No condition. -/
import Derived.Test.YtedfombojnfbiaaPart10
namespace Go.Proofs.Ytedfombojnfbiaa.Am24
open Go Go.Proofs.Ytedfombojnfbiaa.Am

def WdL (k : Nat) (l : List UInt8) : Prop := ∀ b ∈ l, 97 ≤ b.toNat ∧ b.toNat < 97 + k
theorem wd_iff (k : Nat) (w : ByteArray) : Wd k w ↔ WdL k (bl w) := by
  unfold Wd WdL
  constructor
  · intro h b hb
    obtain ⟨i, hi, rfl⟩ := List.mem_iff_getElem.1 hb
    have h2 := h i hi
    have := bl_get (s := w) (i := i) hi
    rw [List.getElem?_eq_getElem hi] at this
    rw [Option.some.inj this]
    exact h2
  · intro h i hi
    have := bl_get (s := w) (i := i) hi
    exact h _ (List.mem_of_getElem? this)
theorem bl_append (a b : ByteArray) : bl (a ++ b) = bl a ++ bl b := by
  unfold bl
  rw [ByteArray.data_append, Array.toList_append]
theorem WdL.append {k : Nat} {a b : List UInt8} : WdL k (a ++ b) ↔ WdL k a ∧ WdL k b := by
  unfold WdL
  simp only [List.mem_append]
  exact ⟨fun h => ⟨fun x hx => h x (.inl hx), fun x hx => h x (.inr hx)⟩, fun h x hx => hx.elim (h.1 x) (h.2 x)⟩

def Alike (n : Nat) (l m : List UInt8) : Prop := ∀ p : List UInt8, p.length ≤ n → (p.Sublist l ↔ p.Sublist m)

theorem dif_none {k : Nat} {u v : ByteArray} : ∀ d i, dif k u v d i = none ↔ ∀ j, i ≤ j → j < i + d → isP (txt k j) u = isP (txt k j) v
  | 0, i => by simp [dif]; intro j h1 h2; omega
  | d + 1, i => by
    simp only [dif]
    split
    · rename_i he
      rw [dif_none d (i + 1)]
      constructor
      · intro h j h1 h2
        by_cases e : j = i
        · subst e; exact he
        · exact h j (by omega) (by omega)
      · intro h j h1 h2; exact h j (by omega) (by omega)
    · rename_i he
      constructor
      · intro h; cases h
      · intro h; exact absurd (h i (by omega) (by omega)) he
theorem dif_some {k : Nat} {u v : ByteArray} {j : Nat} : ∀ d i, dif k u v d i = some j → i ≤ j ∧ j < i + d ∧ isP (txt k j) u ≠ isP (txt k j) v
  | 0, i, h => by simp [dif] at h
  | d + 1, i, h => by
    simp only [dif] at h
    split at h
    · obtain ⟨a, b, c⟩ := dif_some d (i + 1) h
      exact ⟨by omega, by omega, c⟩
    · rename_i he
      cases h
      exact ⟨by omega, by omega, he⟩

theorem num_of {k : Nat} (hk1 : 1 ≤ k) (hk : k ≤ 100) : ∀ (m : Nat) (p : List UInt8), p.length = m → WdL k p → ∃ j, wb k j = p
  | 0, p, hp, _ => ⟨0, by rw [wb_zero, List.eq_nil_of_length_eq_zero hp]⟩
  | m + 1, p, hp, hw => by
    have hne : p ≠ [] := fun e => by simp [e] at hp
    obtain ⟨q, b, rfl⟩ : ∃ q b, p = q ++ [b] := ⟨p.dropLast, p.getLast hne, (List.dropLast_concat_getLast hne).symm⟩
    obtain ⟨h1, h2⟩ := WdL.append.1 hw
    obtain ⟨j, hj⟩ := num_of hk1 hk m q (by simp at hp; omega) h1
    have hb := h2 b (by simp)
    refine ⟨k * j + (b.toNat - 97) + 1, ?_⟩
    rw [wb_step (by omega), hj]
    congr 2
    apply UInt8.toNat_inj.1
    simp only [UInt8.toNat_ofNat']
    omega
theorem num_lt {k : Nat} (hk1 : 1 ≤ k) {n j : Nat} (h : (wb k j).length ≤ n) : j < sho k (n + 1) := by
  have e : (wl k j).length = (wb k j).length := by simp [wb]
  have := ((wl_len hk1 j _).1 e).2
  have := sho_mono (k := k) (show (wb k j).length + 1 ≤ n + 1 by omega)
  omega
theorem wb_len {k j n : Nat} (hk1 : 1 ≤ k) (h : j < sho k (n + 1)) : (wb k j).length ≤ n := by
  have := txt_size hk1 h
  rw [txt_eq, strOf_size] at this
  simpa [wb] using this

theorem dif_alike {k n : Nat} (hk1 : 1 ≤ k) (hk : k ≤ 8) {u v : ByteArray} (hu : Wd k u) (hv : Wd k v) : dif k u v (sho k (n + 1)) 0 = none ↔ Alike n (bl u) (bl v) := by
  rw [dif_none]
  constructor
  · intro h p hp
    by_cases hw : WdL k p
    · obtain ⟨j, rfl⟩ := num_of hk1 (by omega) _ p rfl hw
      have := h j (by omega) (by have := num_lt hk1 hp; omega)
      rw [Bool.eq_iff_iff, isP_iff, isP_iff, bl_txt] at this
      exact this
    · constructor
      · intro hs; exact absurd (fun b hb => (wd_iff k u).1 hu b (hs.subset hb)) hw
      · intro hs; exact absurd (fun b hb => (wd_iff k v).1 hv b (hs.subset hb)) hw
  · intro h j _ hj
    rw [Bool.eq_iff_iff, isP_iff, isP_iff, bl_txt]
    exact h _ (wb_len hk1 (by omega))

theorem chk_zero {k : Nat} (hk1 : 1 ≤ k) (hk : k ≤ 8) {w : ByteArray} : chk k w = 0 ↔ Wd k w := by
  unfold chk
  rw [if_neg (by omega), Int.toNat_natCast]
  constructor
  · intro h
    split at h
    · rename_i h1; exact (okW_iff _ _).1 h1
    · cases h
  · intro h
    rw [if_pos ((okW_iff _ _).2 h)]
theorem pchk_zero {k n : Nat} (hk1 : 1 ≤ k) (hk : k ≤ 8) (hn : n ≤ 4) {u v : ByteArray} (hu : Wd k u) (hv : Wd k v) : pchk k n [u, v] = 0 := by
  unfold pchk
  rw [if_neg (by omega), if_neg (by omega)]
  simp only [chks, (chk_zero hk1 hk).2 hu, (chk_zero hk1 hk).2 hv, if_true]

theorem difV_ok {k n : Nat} (hk1 : 1 ≤ k) (hk : k ≤ 8) (hn : n ≤ 4) {u v : ByteArray} (hu : Wd k u) (hv : Wd k v) :
    difV k n u v = match dif k u v (sho k (n + 1)) 0 with | some j => (txt k j, true, 0) | none => (⟨#[]⟩, false, 0) := by
  unfold difV
  rw [if_pos (pchk_zero hk1 hk hn hu hv), Int.toNat_natCast, Int.toNat_natCast]
  cases dif k u v (sho k (n + 1)) 0 <;> rfl
theorem sameV_alike {k n : Nat} (hk1 : 1 ≤ k) (hk : k ≤ 8) (hn : n ≤ 4) {u v : ByteArray} (hu : Wd k u) (hv : Wd k v) (h : Alike n (bl u) (bl v)) : sameV k n u v = (true, 0) := by
  unfold sameV
  rw [difV_ok hk1 hk hn hu hv, (dif_alike hk1 hk hu hv).2 h]
  rfl
theorem sameV_code {k n : Nat} (hk1 : 1 ≤ k) (hk : k ≤ 8) (hn : n ≤ 4) {u v : ByteArray} (hu : Wd k u) (hv : Wd k v) : (sameV k n u v).2 = 0 := by
  unfold sameV
  rw [difV_ok hk1 hk hn hu hv]
  cases dif k u v (sho k (n + 1)) 0 <;> rfl
theorem sameV_iff {k n : Nat} (hk1 : 1 ≤ k) (hk : k ≤ 8) (hn : n ≤ 4) {u v : ByteArray} (hu : Wd k u) (hv : Wd k v) : (sameV k n u v).1 = true ↔ Alike n (bl u) (bl v) := by
  rw [← dif_alike hk1 hk hu hv]
  unfold sameV
  rw [difV_ok hk1 hk hn hu hv]
  cases dif k u v (sho k (n + 1)) 0 <;> simp

/-- May it be asked? -/
def mayV (k n : Int) (w : ByteArray) : Bool := decide (chk k w = 0) && (decide (0 ≤ n) && decide (n ≤ 4))
theorem c15 (k n : Int) (w : ByteArray) (hs : w.size < 9223372036854775807) (prot : Nat) (H : AHeap) : callInf cfg 15 [.int .i64 k, .int .i64 n, .string w] prot H = some (.bool (mayV k n w), H) := by
  have hc := c31 k w hs H.length H
  unfold mayV
  by_cases h1 : chk k w = 0
  · rw [decide_eq_true h1, Bool.true_and]
    by_cases h2 : 0 ≤ n
    · rw [decide_eq_true h2, Bool.true_and]
      exact f15_F_0 k n w H prot _ hc (by simpa using h1) h2
    · rw [decide_eq_false h2, Bool.false_and]
      exact f15_F_1 k n w H prot _ hc (by simpa using h1) h2
  · rw [decide_eq_false h1, Bool.false_and]
    exact f15_F_2 k n w H prot _ hc (by simpa using h1)
theorem mayV_ok {k n : Int} {w : ByteArray} (h : mayV k n w = true) : ∃ k' n' : Nat, k = k' ∧ n = n' ∧ 1 ≤ k' ∧ k' ≤ 8 ∧ n' ≤ 4 ∧ Wd k' w := by
  unfold mayV at h
  simp only [Bool.and_eq_true, decide_eq_true_eq] at h
  obtain ⟨h1, h2, h3⟩ := h
  have hk : 1 ≤ k ∧ k ≤ 8 := by
    unfold chk at h1
    split at h1
    · cases h1
    · omega
  refine ⟨k.toNat, n.toNat, by omega, by omega, by omega, by omega, by omega, ?_⟩
  refine (chk_zero (by omega) (by omega)).1 ?_
  rw [show ((k.toNat : Nat) : Int) = k by omega]
  exact h1

/-- n times a word. -/
def pow (w : ByteArray) : Nat → ByteArray
  | 0 => ⟨#[]⟩
  | n + 1 => pow w n ++ w
theorem pow_size (w : ByteArray) : ∀ n, (pow w n).size = n * w.size
  | 0 => by rw [Nat.zero_mul]; rfl
  | n + 1 => by simp only [pow, ByteArray.size_append, pow_size w n, Nat.add_mul, Nat.one_mul]
theorem loop17 (w : ByteArray) {n : Nat} (hn : n ≤ 5) (hs : n * w.size ≤ 9223372036854775807) (H0 H : AHeap) (prot : Nat) : ∀ (d i : Nat), i + d = n →
    lpInf (lpOf cfg a17 0 prot H0) ([.string w, .int .i64 n, .string (pow w i), .int .i64 i], H) = some (.exit 0, [.string (pow w n)], H)
  | 0, i, hi => by
    have : i = n := by omega
    subst this
    exact lp_last (f17_L0_1 w i (pow w i) i H0 prot H (by omega))
  | d + 1, i, hi => by
    refine lp_next (f17_L0_0 w n (pow w i) i H0 prot H (by omega) ?_ (fit64 (by omega) (by omega))) (loop17 w hn hs H0 H prot d (i + 1) (by omega))
    have := pow_size w (i + 1)
    simp only [pow, ByteArray.size_append] at this
    have h2 := Nat.mul_le_mul (show i + 1 ≤ n by omega) (Nat.le_refl w.size)
    omega
theorem c17 (w : ByteArray) {n : Nat} (hn : n ≤ 5) (hs : n * w.size ≤ 9223372036854775807) (prot : Nat) (H : AHeap) : callInf cfg 17 [.string w, .int .i64 n] prot H = some (.string (pow w n), H) :=
  f17_F_0 w n H prot _ H (loop17 w hn hs H H prot n 0 (by omega))
end Go.Proofs.Ytedfombojnfbiaa.Am24
set_option linter.unusedVariables false
open Go Go.Proofs.Ytedfombojnfbiaa.Am
namespace Go.Proofs.Ytedfombojnfbiaa.Am24
theorem f18_F_0 (x0 : Int) (x1 : ByteArray) (x2 : Int) (H : AHeap) (prot : Nat) (x16 : Int) (h1 : callInf cfg 26 [Value.int IntKind.i64 x0, Value.int IntKind.i64 x2, Value.slice (some { block := List.length H, off := 0, spot := some (1 * 1) }) 1 1] (List.length H) (H ++ [AObj.cells [Value.string x1] 9 [Value.string x1].length OMode.row]) = some (Value.int IntKind.i64 x16, H ++ [AObj.cells [Value.string x1] 9 [Value.string x1].length OMode.row])) (h2 : (x16 != 0) = true) : callInf cfg 18 [.int .i64 x0, .string x1, .int .i64 x2] prot H = some (Value.tuple { toList := [Value.slice none 0 0, Value.int IntKind.i64 x16] }, H) :=
  fn_of a18 [.e, .v (.int .i64 x16), .e, .b true] (fun e => (callInf cfg 26 [Value.int IntKind.i64 x0, Value.int IntKind.i64 x2, Value.slice (some { block := List.length H, off := 0, spot := some (1 * 1) }) 1 1] (List.length H) (H ++ [AObj.cells [Value.string x1] 9 [Value.string x1].length OMode.row]) = some (Value.int IntKind.i64 x16, H ++ [AObj.cells [Value.string x1] 9 [Value.string x1].length OMode.row])) ∧ ((x16 != 0) = true) ∧ e) (by kernel_rfl) ⟨h1, h2, rfl⟩ rfl
theorem f18_F_1 (x0 : Int) (x1 : ByteArray) (x2 : Int) (H : AHeap) (prot : Nat) (x16 : Int) (x23 : Array Value) (x9p : Nat) (x9o : Nat) (x9l : Nat) (H1 : AHeap) (H2 : AHeap) (x27 : Int) (z10a : Option Addr) (z10n : Nat) (z10c : Nat) (H3 : AHeap) (rv : Value) (rH : AHeap) (h1 : callInf cfg 26 [Value.int IntKind.i64 x0, Value.int IntKind.i64 x2, Value.slice (some { block := List.length H, off := 0, spot := some (1 * 1) }) 1 1] (List.length H) (H ++ [AObj.cells [Value.string x1] 9 [Value.string x1].length OMode.row]) = some (Value.int IntKind.i64 x16, H ++ [AObj.cells [Value.string x1] 9 [Value.string x1].length OMode.row])) (h2 : (x16 != 0) = false) (h3 : callInf cfg 30 [Value.int IntKind.i64 x0, Value.int IntKind.i64 x2, Value.string x1] (List.length H) (H ++ [AObj.cells [Value.string x1] 9 [Value.string x1].length OMode.row]) = some (Value.agg x23, H ++ [AObj.cells [Value.string x1] 9 [Value.string x1].length OMode.row])) (h4 : aalloc cfg.P 65 (H ++ [AObj.cells [Value.string x1] 9 [Value.string x1].length OMode.row]) = some (Value.pointer (some { block := x9p, off := x9o, spot := some x9l }), H1)) (h5 : x23.toList.length = 74) (h6 : setCells H1 (List.length H) x9p x9l x9o x23.toList = some H2) (h7 : Fit IntKind.i64 (x2 + 1)) (h8 : callInf cfg 32 [Value.int IntKind.i64 x0, Value.int IntKind.i64 (x2 + 1)] (List.length H) H2 = some (Value.int IntKind.i64 x27, H2)) (h9 : lpInf (lpOf cfg a18 0 prot H) ([Value.int IntKind.i64 x0, Value.pointer (some { block := x9p, off := x9o, spot := some x9l }), Value.slice none 0 0, Value.int IntKind.i64 x27, Value.int IntKind.i64 0], H2) = some (Ex.exit 0, [Value.slice z10a z10n z10c], H3)) (h10 : pfin a18 H [Value.slice z10a z10n z10c, Value.int IntKind.i64 0] H3 = (rv, rH)) : callInf cfg 18 [.int .i64 x0, .string x1, .int .i64 x2] prot H = some (rv, rH) :=
  fn_of' a18 [.e, .v (.int .i64 x16), .e, .b false, .v (.agg x23), .r (.pointer (some ⟨x9p, x9o, some x9l⟩)) H1, .h H2, .e, .v (.int .i64 x27), .lo (.exit 0, [.slice z10a z10n z10c], H3)] ((callInf cfg 26 [Value.int IntKind.i64 x0, Value.int IntKind.i64 x2, Value.slice (some { block := List.length H, off := 0, spot := some (1 * 1) }) 1 1] (List.length H) (H ++ [AObj.cells [Value.string x1] 9 [Value.string x1].length OMode.row]) = some (Value.int IntKind.i64 x16, H ++ [AObj.cells [Value.string x1] 9 [Value.string x1].length OMode.row])) ∧ ((x16 != 0) = false) ∧ (callInf cfg 30 [Value.int IntKind.i64 x0, Value.int IntKind.i64 x2, Value.string x1] (List.length H) (H ++ [AObj.cells [Value.string x1] 9 [Value.string x1].length OMode.row]) = some (Value.agg x23, H ++ [AObj.cells [Value.string x1] 9 [Value.string x1].length OMode.row])) ∧ (aalloc cfg.P 65 (H ++ [AObj.cells [Value.string x1] 9 [Value.string x1].length OMode.row]) = some (Value.pointer (some { block := x9p, off := x9o, spot := some x9l }), H1)) ∧ (x23.toList.length = 74) ∧ (setCells H1 (List.length H) x9p x9l x9o x23.toList = some H2) ∧ (Fit IntKind.i64 (x2 + 1)) ∧ (callInf cfg 32 [Value.int IntKind.i64 x0, Value.int IntKind.i64 (x2 + 1)] (List.length H) H2 = some (Value.int IntKind.i64 x27, H2)) ∧ (lpInf (lpOf cfg a18 0 prot H) ([Value.int IntKind.i64 x0, Value.pointer (some { block := x9p, off := x9o, spot := some x9l }), Value.slice none 0 0, Value.int IntKind.i64 x27, Value.int IntKind.i64 0], H2) = some (Ex.exit 0, [Value.slice z10a z10n z10c], H3)) ∧ (pfin a18 H [Value.slice z10a z10n z10c, Value.int IntKind.i64 0] H3 = (rv, rH))) (by kernel_rfl) ⟨h1, h2, h3, h4, h5, h6, h7, h8, h9, h10⟩ rfl
theorem f18_L0_0 (x0 : Int) (x9p : Nat) (x9o : Nat) (x9l : Nat) (x10a : Option Addr) (x10n : Nat) (x10c : Nat) (x27 : Int) (x28 : Int) (H0 : AHeap) (prot : Nat) (H : AHeap) (x32 : Bool) (x36 : ByteArray) (x38a : Option Addr) (x38n : Nat) (x38c : Nat) (H2 : AHeap) (h1 : x28 < x27) (h2 : callInf cfg 33 [Value.pointer (some { block := x9p, off := x9o, spot := some x9l }), Value.int IntKind.i64 x28] (List.length H0) H = some (Value.bool x32, H)) (h3 : x32 = true) (h4 : callInf cfg 34 [Value.int IntKind.i64 x0, Value.int IntKind.i64 x28] (List.length H0) H = some (Value.string x36, H)) (h5 : aappend cfg.P (List.length H0) true 22 22 (Value.slice x10a x10n x10c) (Value.slice (some { block := List.length H, off := 0, spot := some (1 * 1) }) 1 1) (H ++ [AObj.cells [Value.string x36] 9 [Value.string x36].length OMode.row]) = some (Value.slice x38a x38n x38c, H2)) (h6 : Fit IntKind.i64 (x28 + 1)) : lpOf cfg a18 0 prot H0 ([.int .i64 x0, .pointer (some ⟨x9p, x9o, some x9l⟩), .slice x10a x10n x10c, .int .i64 x27, .int .i64 x28], H) = some (Sum.inl ([Value.int IntKind.i64 x0, Value.pointer (some { block := x9p, off := x9o, spot := some x9l }), Value.slice x38a x38n x38c, Value.int IntKind.i64 x27, Value.int IntKind.i64 (x28 + 1)], H2)) :=
  lp_of [.e, .b true, .v (.bool x32), .b true, .v (.string x36), .e, .r (.slice x38a x38n x38c) H2, .e] (fun e => (decide (x28 < x27) = true) ∧ (callInf cfg 33 [Value.pointer (some { block := x9p, off := x9o, spot := some x9l }), Value.int IntKind.i64 x28] (List.length H0) H = some (Value.bool x32, H)) ∧ (x32 = true) ∧ (callInf cfg 34 [Value.int IntKind.i64 x0, Value.int IntKind.i64 x28] (List.length H0) H = some (Value.string x36, H)) ∧ (aappend cfg.P (List.length H0) true 22 22 (Value.slice x10a x10n x10c) (Value.slice (some { block := List.length H, off := 0, spot := some (1 * 1) }) 1 1) (H ++ [AObj.cells [Value.string x36] 9 [Value.string x36].length OMode.row]) = some (Value.slice x38a x38n x38c, H2)) ∧ (Fit IntKind.i64 (x28 + 1)) ∧ e) (by kernel_rfl) ⟨decide_eq_true h1, h2, h3, h4, h5, h6, rfl⟩
theorem f18_L0_1 (x0 : Int) (x9p : Nat) (x9o : Nat) (x9l : Nat) (x10a : Option Addr) (x10n : Nat) (x10c : Nat) (x27 : Int) (x28 : Int) (H0 : AHeap) (prot : Nat) (H : AHeap) (x32 : Bool) (h1 : x28 < x27) (h2 : callInf cfg 33 [Value.pointer (some { block := x9p, off := x9o, spot := some x9l }), Value.int IntKind.i64 x28] (List.length H0) H = some (Value.bool x32, H)) (h3 : x32 = false) (h4 : Fit IntKind.i64 (x28 + 1)) : lpOf cfg a18 0 prot H0 ([.int .i64 x0, .pointer (some ⟨x9p, x9o, some x9l⟩), .slice x10a x10n x10c, .int .i64 x27, .int .i64 x28], H) = some (Sum.inl ([Value.int IntKind.i64 x0, Value.pointer (some { block := x9p, off := x9o, spot := some x9l }), Value.slice x10a x10n x10c, Value.int IntKind.i64 x27, Value.int IntKind.i64 (x28 + 1)], H)) :=
  lp_of [.e, .b true, .v (.bool x32), .b false, .e] (fun e => (decide (x28 < x27) = true) ∧ (callInf cfg 33 [Value.pointer (some { block := x9p, off := x9o, spot := some x9l }), Value.int IntKind.i64 x28] (List.length H0) H = some (Value.bool x32, H)) ∧ (x32 = false) ∧ (Fit IntKind.i64 (x28 + 1)) ∧ e) (by kernel_rfl) ⟨decide_eq_true h1, h2, h3, h4, rfl⟩
theorem f18_L0_2 (x0 : Int) (x9p : Nat) (x9o : Nat) (x9l : Nat) (x10a : Option Addr) (x10n : Nat) (x10c : Nat) (x27 : Int) (x28 : Int) (H0 : AHeap) (prot : Nat) (H : AHeap) (h1 : ¬(x28 < x27)) : lpOf cfg a18 0 prot H0 ([.int .i64 x0, .pointer (some ⟨x9p, x9o, some x9l⟩), .slice x10a x10n x10c, .int .i64 x27, .int .i64 x28], H) = some (Sum.inr (Ex.exit 0, [Value.slice x10a x10n x10c], H)) :=
  lp_of [.e, .b false] (fun e => (decide (x28 < x27) = false) ∧ e) (by kernel_rfl) ⟨decide_eq_false h1, rfl⟩
end Go.Proofs.Ytedfombojnfbiaa.Am24
set_option linter.unusedVariables false
open Go Go.Proofs.Ytedfombojnfbiaa.Am
namespace Go.Proofs.Ytedfombojnfbiaa.Am24
theorem f19_F_0 (x0 : Int) (x1 : ByteArray) (x2 : Int) (H : AHeap) (prot : Nat) (x15 : Int) (h1 : callInf cfg 28 [Value.int IntKind.i64 x0, Value.int IntKind.i64 x2, Value.string x1, Value.string { data := { toList := [] } }] (List.length H) H = some (Value.int IntKind.i64 x15, H)) (h2 : (x15 != 0) = true) : callInf cfg 19 [.int .i64 x0, .string x1, .int .i64 x2] prot H = some (Value.tuple { toList := [Value.slice none 0 0, Value.int IntKind.i64 x15] }, H) :=
  fn_of a19 [.v (.int .i64 x15), .e, .b true] (fun e => (callInf cfg 28 [Value.int IntKind.i64 x0, Value.int IntKind.i64 x2, Value.string x1, Value.string { data := { toList := [] } }] (List.length H) H = some (Value.int IntKind.i64 x15, H)) ∧ ((x15 != 0) = true) ∧ e) (by kernel_rfl) ⟨h1, h2, rfl⟩ rfl
theorem f19_F_1 (x0 : Int) (x1 : ByteArray) (x2 : Int) (H : AHeap) (prot : Nat) (x15 : Int) (x21a : Option Addr) (x21n : Nat) (x21c : Nat) (H1 : AHeap) (z9a : Option Addr) (z9n : Nat) (z9c : Nat) (H2 : AHeap) (rv : Value) (rH : AHeap) (h1 : callInf cfg 28 [Value.int IntKind.i64 x0, Value.int IntKind.i64 x2, Value.string x1, Value.string { data := { toList := [] } }] (List.length H) H = some (Value.int IntKind.i64 x15, H)) (h2 : (x15 != 0) = false) (h3 : callInf cfg 35 [Value.int IntKind.i64 x0, Value.int IntKind.i64 x2] (List.length H) H = some (Value.slice x21a x21n x21c, H1)) (h4 : lpInf (lpOf cfg a19 0 prot H) ([Value.string x1, Value.slice none 0 0, Value.slice x21a x21n x21c, Value.int IntKind.i64 0], H1) = some (Ex.exit 0, [Value.slice z9a z9n z9c], H2)) (h5 : pfin a19 H [Value.slice z9a z9n z9c, Value.int IntKind.i64 0] H2 = (rv, rH)) : callInf cfg 19 [.int .i64 x0, .string x1, .int .i64 x2] prot H = some (rv, rH) :=
  fn_of' a19 [.v (.int .i64 x15), .e, .b false, .r (.slice x21a x21n x21c) H1, .lo (.exit 0, [.slice z9a z9n z9c], H2)] ((callInf cfg 28 [Value.int IntKind.i64 x0, Value.int IntKind.i64 x2, Value.string x1, Value.string { data := { toList := [] } }] (List.length H) H = some (Value.int IntKind.i64 x15, H)) ∧ ((x15 != 0) = false) ∧ (callInf cfg 35 [Value.int IntKind.i64 x0, Value.int IntKind.i64 x2] (List.length H) H = some (Value.slice x21a x21n x21c, H1)) ∧ (lpInf (lpOf cfg a19 0 prot H) ([Value.string x1, Value.slice none 0 0, Value.slice x21a x21n x21c, Value.int IntKind.i64 0], H1) = some (Ex.exit 0, [Value.slice z9a z9n z9c], H2)) ∧ (pfin a19 H [Value.slice z9a z9n z9c, Value.int IntKind.i64 0] H2 = (rv, rH))) (by kernel_rfl) ⟨h1, h2, h3, h4, h5⟩ rfl
theorem f19_L0_0 (x1 : ByteArray) (x9a : Option Addr) (x9n : Nat) (x9c : Nat) (x10a : Option Addr) (x10n : Nat) (x10c : Nat) (x11 : Int) (H0 : AHeap) (prot : Nat) (H : AHeap) (x30p : Nat) (x30o : Nat) (x30l : Nat) (x31 : ByteArray) (x33 : Bool) (x37p : Nat) (x37o : Nat) (x37l : Nat) (x38 : ByteArray) (x40a : Option Addr) (x40n : Nat) (x40c : Nat) (H2 : AHeap) (h1 : x11 < (↑x10n : Int)) (h2 : aindexAddr cfg.P 22 (Value.slice x10a x10n x10c) (Value.int IntKind.i64 x11) = some (Value.pointer (some { block := x30p, off := x30o, spot := some x30l }))) (h3 : getCells H x30p x30l x30o 1 = some [Value.string x31]) (h4 : callInf cfg 24 [Value.string x31, Value.string x1] (List.length H0) H = some (Value.bool x33, H)) (h5 : x33 = true) (h6 : aindexAddr cfg.P 22 (Value.slice x10a x10n x10c) (Value.int IntKind.i64 x11) = some (Value.pointer (some { block := x37p, off := x37o, spot := some x37l }))) (h7 : getCells H x37p x37l x37o 1 = some [Value.string x38]) (h8 : aappend cfg.P (List.length H0) true 22 22 (Value.slice x9a x9n x9c) (Value.slice (some { block := List.length H, off := 0, spot := some (1 * 1) }) 1 1) (H ++ [AObj.cells [Value.string x38] 9 [Value.string x38].length OMode.row]) = some (Value.slice x40a x40n x40c, H2)) (h9 : Fit IntKind.i64 (x11 + 1)) : lpOf cfg a19 0 prot H0 ([.string x1, .slice x9a x9n x9c, .slice x10a x10n x10c, .int .i64 x11], H) = some (Sum.inl ([Value.string x1, Value.slice x40a x40n x40c, Value.slice x10a x10n x10c, Value.int IntKind.i64 (x11 + 1)], H2)) :=
  lp_of [.e, .e, .b true, .v (.pointer (some ⟨x30p, x30o, some x30l⟩)), .v (.string x31), .v (.bool x33), .b true, .v (.pointer (some ⟨x37p, x37o, some x37l⟩)), .v (.string x38), .e, .r (.slice x40a x40n x40c) H2, .e] (fun e => (decide (x11 < (↑x10n : Int)) = true) ∧ (aindexAddr cfg.P 22 (Value.slice x10a x10n x10c) (Value.int IntKind.i64 x11) = some (Value.pointer (some { block := x30p, off := x30o, spot := some x30l }))) ∧ (getCells H x30p x30l x30o 1 = some [Value.string x31]) ∧ (callInf cfg 24 [Value.string x31, Value.string x1] (List.length H0) H = some (Value.bool x33, H)) ∧ (x33 = true) ∧ (aindexAddr cfg.P 22 (Value.slice x10a x10n x10c) (Value.int IntKind.i64 x11) = some (Value.pointer (some { block := x37p, off := x37o, spot := some x37l }))) ∧ (getCells H x37p x37l x37o 1 = some [Value.string x38]) ∧ (aappend cfg.P (List.length H0) true 22 22 (Value.slice x9a x9n x9c) (Value.slice (some { block := List.length H, off := 0, spot := some (1 * 1) }) 1 1) (H ++ [AObj.cells [Value.string x38] 9 [Value.string x38].length OMode.row]) = some (Value.slice x40a x40n x40c, H2)) ∧ (Fit IntKind.i64 (x11 + 1)) ∧ e) (by kernel_rfl) ⟨decide_eq_true h1, h2, h3, h4, h5, h6, h7, h8, h9, rfl⟩
theorem f19_L0_1 (x1 : ByteArray) (x9a : Option Addr) (x9n : Nat) (x9c : Nat) (x10a : Option Addr) (x10n : Nat) (x10c : Nat) (x11 : Int) (H0 : AHeap) (prot : Nat) (H : AHeap) (x30p : Nat) (x30o : Nat) (x30l : Nat) (x31 : ByteArray) (x33 : Bool) (h1 : x11 < (↑x10n : Int)) (h2 : aindexAddr cfg.P 22 (Value.slice x10a x10n x10c) (Value.int IntKind.i64 x11) = some (Value.pointer (some { block := x30p, off := x30o, spot := some x30l }))) (h3 : getCells H x30p x30l x30o 1 = some [Value.string x31]) (h4 : callInf cfg 24 [Value.string x31, Value.string x1] (List.length H0) H = some (Value.bool x33, H)) (h5 : x33 = false) (h6 : Fit IntKind.i64 (x11 + 1)) : lpOf cfg a19 0 prot H0 ([.string x1, .slice x9a x9n x9c, .slice x10a x10n x10c, .int .i64 x11], H) = some (Sum.inl ([Value.string x1, Value.slice x9a x9n x9c, Value.slice x10a x10n x10c, Value.int IntKind.i64 (x11 + 1)], H)) :=
  lp_of [.e, .e, .b true, .v (.pointer (some ⟨x30p, x30o, some x30l⟩)), .v (.string x31), .v (.bool x33), .b false, .e] (fun e => (decide (x11 < (↑x10n : Int)) = true) ∧ (aindexAddr cfg.P 22 (Value.slice x10a x10n x10c) (Value.int IntKind.i64 x11) = some (Value.pointer (some { block := x30p, off := x30o, spot := some x30l }))) ∧ (getCells H x30p x30l x30o 1 = some [Value.string x31]) ∧ (callInf cfg 24 [Value.string x31, Value.string x1] (List.length H0) H = some (Value.bool x33, H)) ∧ (x33 = false) ∧ (Fit IntKind.i64 (x11 + 1)) ∧ e) (by kernel_rfl) ⟨decide_eq_true h1, h2, h3, h4, h5, h6, rfl⟩
theorem f19_L0_2 (x1 : ByteArray) (x9a : Option Addr) (x9n : Nat) (x9c : Nat) (x10a : Option Addr) (x10n : Nat) (x10c : Nat) (x11 : Int) (H0 : AHeap) (prot : Nat) (H : AHeap) (h1 : ¬(x11 < (↑x10n : Int))) : lpOf cfg a19 0 prot H0 ([.string x1, .slice x9a x9n x9c, .slice x10a x10n x10c, .int .i64 x11], H) = some (Sum.inr (Ex.exit 0, [Value.slice x9a x9n x9c], H)) :=
  lp_of [.e, .e, .b false] (fun e => (decide (x11 < (↑x10n : Int)) = false) ∧ e) (by kernel_rfl) ⟨decide_eq_false h1, rfl⟩
end Go.Proofs.Ytedfombojnfbiaa.Am24
set_option linter.unusedVariables false
open Go Go.Proofs.Ytedfombojnfbiaa.Am
namespace Go.Proofs.Ytedfombojnfbiaa.Am24
theorem f12_F_0 (x0a : Option Addr) (x0n : Nat) (x0c : Nat) (x1a : Option Addr) (x1n : Nat) (x1c : Nat) (H : AHeap) (prot : Nat) (h1 : ((↑x0n : Int) != (↑x1n : Int)) = true) : callInf cfg 12 [.slice x0a x0n x0c, .slice x1a x1n x1c] prot H = some (Value.bool false, H) :=
  fn_of a12 [.e, .e, .e, .b true] (fun e => (((↑x0n : Int) != (↑x1n : Int)) = true) ∧ e) (by kernel_rfl) ⟨h1, rfl⟩ rfl
theorem f12_F_1 (x0a : Option Addr) (x0n : Nat) (x0c : Nat) (x1a : Option Addr) (x1n : Nat) (x1c : Nat) (H : AHeap) (prot : Nat) (z4 : Value) (H1 : AHeap) (h1 : ((↑x0n : Int) != (↑x1n : Int)) = false) (h2 : lpInf (lpOf cfg a12 0 prot H) ([Value.slice x0a x0n x0c, Value.slice x1a x1n x1c, Value.int IntKind.i64 0], H) = some (Ex.exit 0, [z4], H1)) : callInf cfg 12 [.slice x0a x0n x0c, .slice x1a x1n x1c] prot H = some (Value.bool true, H) :=
  fn_of a12 [.e, .e, .e, .b false, .lo (.exit 0, [z4], H1)] (fun e => (((↑x0n : Int) != (↑x1n : Int)) = false) ∧ (lpInf (lpOf cfg a12 0 prot H) ([Value.slice x0a x0n x0c, Value.slice x1a x1n x1c, Value.int IntKind.i64 0], H) = some (Ex.exit 0, [z4], H1)) ∧ e) (by kernel_rfl) ⟨h1, h2, rfl⟩ rfl
theorem f12_F_2 (x0a : Option Addr) (x0n : Nat) (x0c : Nat) (x1a : Option Addr) (x1n : Nat) (x1c : Nat) (H : AHeap) (prot : Nat) (z4 : Bool) (H1 : AHeap) (h1 : ((↑x0n : Int) != (↑x1n : Int)) = false) (h2 : lpInf (lpOf cfg a12 0 prot H) ([Value.slice x0a x0n x0c, Value.slice x1a x1n x1c, Value.int IntKind.i64 0], H) = some (Ex.ret, [Value.bool z4], H1)) : callInf cfg 12 [.slice x0a x0n x0c, .slice x1a x1n x1c] prot H = some (Value.bool z4, H) :=
  fn_of a12 [.e, .e, .e, .b false, .lo (.ret, [.bool z4], H1)] (fun e => (((↑x0n : Int) != (↑x1n : Int)) = false) ∧ (lpInf (lpOf cfg a12 0 prot H) ([Value.slice x0a x0n x0c, Value.slice x1a x1n x1c, Value.int IntKind.i64 0], H) = some (Ex.ret, [Value.bool z4], H1)) ∧ e) (by kernel_rfl) ⟨h1, h2, rfl⟩ rfl
theorem f12_L0_0 (x0a : Option Addr) (x0n : Nat) (x0c : Nat) (x1a : Option Addr) (x1n : Nat) (x1c : Nat) (x5 : Int) (H0 : AHeap) (prot : Nat) (H : AHeap) (x19p : Nat) (x19o : Nat) (x19l : Nat) (x20 : ByteArray) (x23p : Nat) (x23o : Nat) (x23l : Nat) (x24 : ByteArray) (h1 : x5 < (↑x0n : Int)) (h2 : aindexAddr cfg.P 22 (Value.slice x0a x0n x0c) (Value.int IntKind.i64 x5) = some (Value.pointer (some { block := x19p, off := x19o, spot := some x19l }))) (h3 : getCells H x19p x19l x19o 1 = some [Value.string x20]) (h4 : aindexAddr cfg.P 22 (Value.slice x1a x1n x1c) (Value.int IntKind.i64 x5) = some (Value.pointer (some { block := x23p, off := x23o, spot := some x23l }))) (h5 : getCells H x23p x23l x23o 1 = some [Value.string x24]) (h6 : (!x20.toList == x24.toList) = true) : lpOf cfg a12 0 prot H0 ([.slice x0a x0n x0c, .slice x1a x1n x1c, .int .i64 x5], H) = some (Sum.inr (Ex.ret, [Value.bool false], H)) :=
  lp_of [.e, .e, .b true, .v (.pointer (some ⟨x19p, x19o, some x19l⟩)), .v (.string x20), .v (.pointer (some ⟨x23p, x23o, some x23l⟩)), .v (.string x24), .e, .b true] (fun e => (decide (x5 < (↑x0n : Int)) = true) ∧ (aindexAddr cfg.P 22 (Value.slice x0a x0n x0c) (Value.int IntKind.i64 x5) = some (Value.pointer (some { block := x19p, off := x19o, spot := some x19l }))) ∧ (getCells H x19p x19l x19o 1 = some [Value.string x20]) ∧ (aindexAddr cfg.P 22 (Value.slice x1a x1n x1c) (Value.int IntKind.i64 x5) = some (Value.pointer (some { block := x23p, off := x23o, spot := some x23l }))) ∧ (getCells H x23p x23l x23o 1 = some [Value.string x24]) ∧ ((!x20.toList == x24.toList) = true) ∧ e) (by kernel_rfl) ⟨decide_eq_true h1, h2, h3, h4, h5, h6, rfl⟩
theorem f12_L0_1 (x0a : Option Addr) (x0n : Nat) (x0c : Nat) (x1a : Option Addr) (x1n : Nat) (x1c : Nat) (x5 : Int) (H0 : AHeap) (prot : Nat) (H : AHeap) (x19p : Nat) (x19o : Nat) (x19l : Nat) (x20 : ByteArray) (x23p : Nat) (x23o : Nat) (x23l : Nat) (x24 : ByteArray) (h1 : x5 < (↑x0n : Int)) (h2 : aindexAddr cfg.P 22 (Value.slice x0a x0n x0c) (Value.int IntKind.i64 x5) = some (Value.pointer (some { block := x19p, off := x19o, spot := some x19l }))) (h3 : getCells H x19p x19l x19o 1 = some [Value.string x20]) (h4 : aindexAddr cfg.P 22 (Value.slice x1a x1n x1c) (Value.int IntKind.i64 x5) = some (Value.pointer (some { block := x23p, off := x23o, spot := some x23l }))) (h5 : getCells H x23p x23l x23o 1 = some [Value.string x24]) (h6 : (!x20.toList == x24.toList) = false) (h7 : Fit IntKind.i64 (x5 + 1)) : lpOf cfg a12 0 prot H0 ([.slice x0a x0n x0c, .slice x1a x1n x1c, .int .i64 x5], H) = some (Sum.inl ([Value.slice x0a x0n x0c, Value.slice x1a x1n x1c, Value.int IntKind.i64 (x5 + 1)], H)) :=
  lp_of [.e, .e, .b true, .v (.pointer (some ⟨x19p, x19o, some x19l⟩)), .v (.string x20), .v (.pointer (some ⟨x23p, x23o, some x23l⟩)), .v (.string x24), .e, .b false, .e] (fun e => (decide (x5 < (↑x0n : Int)) = true) ∧ (aindexAddr cfg.P 22 (Value.slice x0a x0n x0c) (Value.int IntKind.i64 x5) = some (Value.pointer (some { block := x19p, off := x19o, spot := some x19l }))) ∧ (getCells H x19p x19l x19o 1 = some [Value.string x20]) ∧ (aindexAddr cfg.P 22 (Value.slice x1a x1n x1c) (Value.int IntKind.i64 x5) = some (Value.pointer (some { block := x23p, off := x23o, spot := some x23l }))) ∧ (getCells H x23p x23l x23o 1 = some [Value.string x24]) ∧ ((!x20.toList == x24.toList) = false) ∧ (Fit IntKind.i64 (x5 + 1)) ∧ e) (by kernel_rfl) ⟨decide_eq_true h1, h2, h3, h4, h5, h6, h7, rfl⟩
theorem f12_L0_2 (x0a : Option Addr) (x0n : Nat) (x0c : Nat) (x1a : Option Addr) (x1n : Nat) (x1c : Nat) (x5 : Int) (H0 : AHeap) (prot : Nat) (H : AHeap) (h1 : ¬(x5 < (↑x0n : Int))) : lpOf cfg a12 0 prot H0 ([.slice x0a x0n x0c, .slice x1a x1n x1c, .int .i64 x5], H) = some (Sum.inr (Ex.exit 0, [Value.tuple { toList := [] }], H)) :=
  lp_of [.e, .e, .b false] (fun e => (decide (x5 < (↑x0n : Int)) = false) ∧ e) (by kernel_rfl) ⟨decide_eq_false h1, rfl⟩
end Go.Proofs.Ytedfombojnfbiaa.Am24
namespace Go.Proofs.Ytedfombojnfbiaa.Am24
open Go Go.Proofs.Ytedfombojnfbiaa.Am

/-- The words from number i on, among d, that are pieces. -/
def pcs (k : Nat) (w : ByteArray) : Nat → Nat → List ByteArray
  | 0, _ => []
  | d + 1, i => if isP (txt k i) w then txt k i :: pcs k w d (i + 1) else pcs k w d (i + 1)
theorem pcs_len (k : Nat) (w : ByteArray) : ∀ d i, (pcs k w d i).length ≤ d
  | 0, _ => Nat.le_refl _
  | d + 1, i => by
    have := pcs_len k w d (i + 1)
    simp only [pcs]
    split
    · simp only [List.length_cons]; omega
    · omega

theorem loop18 {k n : Nat} (hk1 : 1 ≤ k) (hk : k ≤ 8) (hn : n ≤ 4) {w : ByteArray} (hw : Wd k w) (p : Nat) (H0 : AHeap) (prot : Nat) : ∀ (d i : Nat) (x : Value) (o : Option Nat) (m : Nat) (l : List ByteArray) (H : AHeap), i + d = sho k (n + 1) → m ≤ i →
    H[p]? = some (kobj (kindOf k n w)) → Own H 9 1 x o m (sc l) → (∀ id, o = some id → p < id) → H0.length ≤ p →
    ∃ a' n' c' o' H', lpInf (lpOf cfg a18 0 prot H0) ([.int .i64 k, .pointer (some ⟨p, 0, some 74⟩), x, .int .i64 (sho k (n + 1) : Nat), .int .i64 i], H) = some (.exit 0, [.slice a' n' c'], H') ∧ Own H' 9 1 (.slice a' n' c') o' n' (sc (l ++ pcs k w d i)) ∧ (∀ id, o' = some id → H0.length ≤ id)
  | 0, i, x, o, m, l, H, hi, hm, hp, hx, ho, hpH => by
    obtain ⟨a, c, rfl⟩ := hx.len
    refine ⟨a, m, c, o, H, lp_last (f18_L0_2 k p 0 74 a m c (sho k (n + 1) : Nat) i H0 prot H (by omega)), ?_, fun id h => by have := ho id h; omega⟩
    simp only [pcs, List.append_nil]
    exact hx
  | d + 1, i, x, o, m, l, H, hi, hm, hp, hx, ho, hpH => by
    obtain ⟨a, c, rfl⟩ := hx.len
    have hr := sho_room hk hn
    have hss := sho_succ k n
    have hlt := (List.getElem?_eq_some_iff.1 hp).1
    have h1 := c33 (kindOf_ok k n w) hp (Nat.le_refl _) (i := i) (by omega) H0.length
    rw [kind_bits hk1 hk hn hw (by omega)] at h1
    by_cases he : isP (txt k i) w = true
    · obtain ⟨a', c', o', H', g1, g2, g3, g4, g5, g6⟩ := own_app T22 hx (ecs := [.string (txt k i)]) rfl rfl (prot := H0.length) (room := true) (fun id h => by have := ho id h; omega) (by omega) (by omega) (L := 1 * 1) rfl (el := [Value.string (txt k i)].length) rfl
      have step := f18_L0_0 k p 0 74 a m c (sho k (n + 1) : Nat) i H0 prot H _ _ a' (m + 1) c' H' (by omega) h1 he (txt_call hk1 hk hn (by omega) _ _) g1 (fit64 (by omega) (by omega))
      have hw' : sc l ++ [.string (txt k i)] = sc (l ++ [txt k i]) := by rw [sc_append]; rfl
      rw [hw'] at g2
      obtain ⟨a2, n2, c2, o2, H2, q1, q2, q3⟩ := loop18 hk1 hk hn hw p H0 prot d (i + 1) _ (some o') (m + 1) (l ++ [txt k i]) H' (by omega) (by omega)
        (by rw [g3.2 p hlt (fun e => by have := ho p e; omega)]; exact hp) g2 (fun id h => by
          cases h
          cases o with
          | none => have := g5 rfl; omega
          | some oid => rw [g6 oid rfl]; exact ho oid rfl) hpH
      refine ⟨a2, n2, c2, o2, H2, lp_next step q1, ?_, q3⟩
      rw [show pcs k w (d + 1) i = txt k i :: pcs k w d (i + 1) by simp only [pcs]; rw [if_pos he]]
      simpa using q2
    · have step := f18_L0_1 k p 0 74 a m c (sho k (n + 1) : Nat) i H0 prot H _ (by omega) h1 (by simpa using he) (fit64 (by omega) (by omega))
      obtain ⟨a2, n2, c2, o2, H2, q1, q2, q3⟩ := loop18 hk1 hk hn hw p H0 prot d (i + 1) _ o m l H (by omega) (by omega) hp hx ho hpH
      refine ⟨a2, n2, c2, o2, H2, lp_next step q1, ?_, q3⟩
      rw [show pcs k w (d + 1) i = pcs k w d (i + 1) by simp only [pcs]; rw [if_neg he]]
      exact q2

/-- What Pieces answers. -/
def pcsV (k n : Int) (w : ByteArray) : List ByteArray × Int :=
  if pchk k n [w] = 0 then (pcs k.toNat w (sho k.toNat (n.toNat + 1)) 0, 0) else ([], pchk k n [w])

theorem c18 (k n : Int) (w : ByteArray) (hs : w.size < 9223372036854775807) (prot : Nat) (H : AHeap) :
    ∃ a' n' c' o' H', callInf cfg 18 [.int .i64 k, .string w, .int .i64 n] prot H = some (.tuple #[.slice a' n' c', .int .i64 (pcsV k n w).2], H') ∧ Own H' 9 1 (.slice a' n' c') o' n' (sc (pcsV k n w).1) ∧ Stay none H H' ∧ (∀ id, o' = some id → H.length ≤ id) := by
  let H1 := H ++ [AObj.cells (sc [w]) 9 (sc [w]).length .row]
  have l1 : H1.length = H.length + 1 := by simp [H1]
  have hc := c26 (k := k) (n := n) (l := [w]) H.length H1 (own_new (H := H) (e := 9) (s := 1) (n := 1) (cs := sc [w]) rfl (by omega) (L := 1 * 1) rfl rfl) (by omega)
  unfold pcsV
  by_cases h0 : pchk k n [w] = 0
  · rw [if_pos h0]
    rw [h0] at hc
    obtain ⟨a1, a2, a3, a4, a5⟩ := pchk_ok h0
    obtain ⟨k, rfl⟩ : ∃ k' : Nat, k = k' := ⟨k.toNat, by omega⟩
    obtain ⟨n, rfl⟩ : ∃ n' : Nat, n = n' := ⟨n.toNat, by omega⟩
    rw [Int.toNat_natCast] at a5
    have ww : Wd k w := a5 w (by simp)
    have hk : k ≤ 8 := by omega
    have hn : n ≤ 4 := by omega
    let H2 := H1 ++ [kobj (List.replicate 74 0)]
    have l2 : H2.length = H.length + 2 := by simp [H2, l1]
    have g1 : H2[H1.length]? = some (kobj (List.replicate 74 0)) := append_get.1
    let H3 := H2.set H1.length (kobj (kindOf k n w))
    have g13 : H3[H1.length]? = some (kobj (kindOf k n w)) := get_set_self g1
    have l3 : H3.length = H.length + 2 := by simp [H3, l2]
    obtain ⟨a', n', c', o', H4, q1, q2, q3⟩ := loop18 (by omega) hk hn ww H1.length H prot (sho k (n + 1)) 0 (.slice none 0 0) none 0 [] H3 (by omega) (by omega) g13 own_nil (fun id h => by cases h) (by omega)
    have e11 : (n : Int) + 1 = ((n + 1 : Nat) : Int) := by omega
    have h12 := c32 hk (n := n + 1) (by omega) H.length H3
    rw [← e11] at h12
    have hlen : ∀ ws, KOK ws → (kc ws).toArray.toList.length = 74 := fun ws h => by show (kc ws).length = 74; rw [kc_len, h.1]
    rw [Int.toNat_natCast, Int.toNat_natCast]
    obtain ⟨x', o2, H5, r1, r2, r3, r4, _⟩ := gc_row (H := H) q2 q3 (sc_plain _) (ps := [.int .i64 0]) rfl
    obtain ⟨a2, c2, rfl⟩ := r2.len
    refine ⟨a2, n', c2, o2, H5, f18_F_1 k w n H prot 0 (kc (kindOf k n w)).toArray H1.length 0 74 H2 H3 _ a' n' c' H4 _ H5 hc rfl (c30 hk hn ww hs _ _) (alloc65 H1)
        (hlen _ (kindOf_ok _ _ _)) (kset_all zeroOK (kindOf_ok _ _ _) g1 (by omega)) (fit64 (by omega) (by omega)) h12 q1 ?_, ?_, r3, r4⟩
    · rw [pfin_eq]; exact r1
    · simpa using r2
  · rw [if_neg h0]
    exact ⟨none, 0, 0, none, H, f18_F_0 k w n H prot _ hc (by simpa using h0), own_nil, Stay.refl _ _, fun id h => by cases h⟩

theorem loop19 {k n : Nat} (hk1 : 1 ≤ k) (hk : k ≤ 8) (hn : n ≤ 4) {w : ByteArray} (hs : w.size < 9223372036854775807) {y : Value} {oy : Nat} (H0 : AHeap) (prot : Nat) : ∀ (d i : Nat) (x : Value) (o : Option Nat) (m : Nat) (l : List ByteArray) (H : AHeap), i + d = sho k (n + 1) → m ≤ i →
    Own H 9 1 y (some oy) (sho k (n + 1)) (sc (wds k (sho k (n + 1)))) → Own H 9 1 x o m (sc l) → (∀ id, o = some id → oy < id) → H0.length ≤ oy →
    ∃ a' n' c' o' H', lpInf (lpOf cfg a19 0 prot H0) ([.string w, x, y, .int .i64 i], H) = some (.exit 0, [.slice a' n' c'], H') ∧ Own H' 9 1 (.slice a' n' c') o' n' (sc (l ++ pcs k w d i)) ∧ (∀ id, o' = some id → H0.length ≤ id)
  | 0, i, x, o, m, l, H, hi, hm, hy, hx, ho, hpH => by
    obtain ⟨a, c, rfl⟩ := hx.len
    obtain ⟨ya, yc, rfl⟩ := hy.len
    refine ⟨a, m, c, o, H, lp_last (f19_L0_2 w a m c ya _ yc i H0 prot H (by omega)), ?_, fun id h => by have := ho id h; omega⟩
    simp only [pcs, List.append_nil]
    exact hx
  | d + 1, i, x, o, m, l, H, hi, hm, hy, hx, ho, hpH => by
    obtain ⟨a, c, rfl⟩ := hx.len
    obtain ⟨ya, yc, rfl⟩ := hy.len
    have hr := sho_room hk hn
    have hss := sho_succ k n
    have hil : i < sho k (n + 1) := by omega
    obtain ⟨id, hid, g1, g2⟩ := own_at T22 hy (sc_get (wds_get hil))
    cases hid
    have hts := txt_size hk1 hil
    have h1 := c24 (txt k i) w (by omega) hs H0.length H
    have hlt : oy < H.length := (List.getElem?_eq_some_iff.1 hy.2.2.2.choose_spec.2).1
    by_cases he : isP (txt k i) w = true
    · obtain ⟨a', c', o', H', q1, q2, q3, q4, q5, q6⟩ := own_app T22 hx (ecs := [.string (txt k i)]) rfl rfl (prot := H0.length) (room := true) (fun id h => by have := ho id h; omega) (by omega) (by omega) (L := 1 * 1) rfl (el := [Value.string (txt k i)].length) rfl
      have step := f19_L0_0 w a m c ya _ yc i H0 prot H oy i _ (txt k i) _ oy i _ (txt k i) a' (m + 1) c' H' (by omega) g1 g2 h1 he g1 g2 q1 (fit64 (by omega) (by omega))
      have hw' : sc l ++ [.string (txt k i)] = sc (l ++ [txt k i]) := by rw [sc_append]; rfl
      rw [hw'] at q2
      obtain ⟨a2, n2, c2, o2, H2, p1, p2, p3⟩ := loop19 hk1 hk hn hs H0 prot d (i + 1) _ (some o') (m + 1) (l ++ [txt k i]) H' (by omega) (by omega)
        (hy.stay q3 (fun id h e => by cases h; have := ho oy e; omega)) q2 (fun id h => by
          cases h
          cases o with
          | none => have := q5 rfl; omega
          | some oid => rw [q6 oid rfl]; exact ho oid rfl) hpH
      refine ⟨a2, n2, c2, o2, H2, lp_next step p1, ?_, p3⟩
      rw [show pcs k w (d + 1) i = txt k i :: pcs k w d (i + 1) by simp only [pcs]; rw [if_pos he]]
      simpa using p2
    · have step := f19_L0_1 w a m c ya _ yc i H0 prot H oy i _ (txt k i) _ (by omega) g1 g2 h1 (by simpa using he) (fit64 (by omega) (by omega))
      obtain ⟨a2, n2, c2, o2, H2, p1, p2, p3⟩ := loop19 hk1 hk hn hs H0 prot d (i + 1) _ o m l H (by omega) (by omega) hy hx ho hpH
      refine ⟨a2, n2, c2, o2, H2, lp_next step p1, ?_, p3⟩
      rw [show pcs k w (d + 1) i = pcs k w d (i + 1) by simp only [pcs]; rw [if_neg he]]
      exact p2

theorem pchk_empty (k n : Int) (w : ByteArray) : pchk k n [w, ⟨#[]⟩] = pchk k n [w] := by
  unfold pchk
  split
  · rfl
  · rename_i h
    split
    · rfl
    · have : chk k ⟨#[]⟩ = 0 := by unfold chk; rw [if_neg h]; rfl
      simp only [chks, this, if_true]

theorem c19 (k n : Int) (w : ByteArray) (hs : w.size < 9223372036854775807) (prot : Nat) (H : AHeap) :
    ∃ a' n' c' o' H', callInf cfg 19 [.int .i64 k, .string w, .int .i64 n] prot H = some (.tuple #[.slice a' n' c', .int .i64 (pcsV k n w).2], H') ∧ Own H' 9 1 (.slice a' n' c') o' n' (sc (pcsV k n w).1) ∧ Stay none H H' ∧ (∀ id, o' = some id → H.length ≤ id) := by
  have hc := c28 k n w ⟨#[]⟩ hs (by show 0 < _; omega) H.length H
  rw [pchk_empty] at hc
  unfold pcsV
  by_cases h0 : pchk k n [w] = 0
  · rw [if_pos h0]
    rw [h0] at hc
    obtain ⟨a1, a2, a3, a4, a5⟩ := pchk_ok h0
    obtain ⟨k, rfl⟩ : ∃ k' : Nat, k = k' := ⟨k.toNat, by omega⟩
    obtain ⟨n, rfl⟩ : ∃ n' : Nat, n = n' := ⟨n.toNat, by omega⟩
    have hk : k ≤ 8 := by omega
    have hn : n ≤ 4 := by omega
    obtain ⟨x, H1, s1, s2, s3⟩ := c35 (k := k) (n := n) (by omega) (by omega) (by omega) H.length H
    obtain ⟨xa, xc, rfl⟩ := s2.len
    obtain ⟨a', n', c', o', H4, q1, q2, q3⟩ := loop19 (by omega) hk hn hs H prot (sho k (n + 1)) 0 (.slice none 0 0) none 0 [] H1 (by omega) (by omega) s2 own_nil (fun id h => by cases h) (by omega)
    rw [Int.toNat_natCast, Int.toNat_natCast]
    obtain ⟨x', o2, H5, r1, r2, r3, r4, _⟩ := gc_row (H := H) q2 q3 (sc_plain _) (ps := [.int .i64 0]) rfl
    obtain ⟨a2, c2, rfl⟩ := r2.len
    refine ⟨a2, n', c2, o2, H5, f19_F_1 k w n H prot 0 xa _ xc H1 a' n' c' H4 _ H5 hc rfl s1 q1 ?_, ?_, r3, r4⟩
    · rw [pfin_eq]; exact r1
    · simpa using r2
  · rw [if_neg h0]
    exact ⟨none, 0, 0, none, H, f19_F_0 k w n H prot _ hc (by simpa using h0), own_nil, Stay.refl _ _, fun id h => by cases h⟩
end Go.Proofs.Ytedfombojnfbiaa.Am24
