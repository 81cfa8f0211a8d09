/- A part of the proof of a given statement: Sp24_Alike, AmKey, Sp24_Cls, Sp24_Walk, P24_25, P24_36, P24_43. No condition. -/
import Derived.Test.YtedfombojnfbiaaPart10
namespace Go.Proofs.Ytedfombojnfbiaa.Am24
open Go Go.Proofs.Ytedfombojnfbiaa.Am

def WdL (k : Nat) (l : List UInt8) : Prop := ∀ b ∈ l, 97 ≤ b.toNat ∧ b.toNat < 97 + k
theorem wd_iff (k : Nat) (w : ByteArray) : Wd k w ↔ WdL k (bl w) := by
  unfold Wd WdL
  constructor
  · intro h b hb
    obtain ⟨i, hi, rfl⟩ := List.mem_iff_getElem.1 hb
    have h2 := h i hi
    have := bl_get (s := w) (i := i) hi
    rw [List.getElem?_eq_getElem hi] at this
    rw [Option.some.inj this]
    exact h2
  · intro h i hi
    have := bl_get (s := w) (i := i) hi
    exact h _ (List.mem_of_getElem? this)
theorem bl_append (a b : ByteArray) : bl (a ++ b) = bl a ++ bl b := by
  unfold bl
  rw [ByteArray.data_append, Array.toList_append]
theorem WdL.append {k : Nat} {a b : List UInt8} : WdL k (a ++ b) ↔ WdL k a ∧ WdL k b := by
  unfold WdL
  simp only [List.mem_append]
  exact ⟨fun h => ⟨fun x hx => h x (.inl hx), fun x hx => h x (.inr hx)⟩, fun h x hx => hx.elim (h.1 x) (h.2 x)⟩

def Alike (n : Nat) (l m : List UInt8) : Prop := ∀ p : List UInt8, p.length ≤ n → (p.Sublist l ↔ p.Sublist m)

theorem dif_none {k : Nat} {u v : ByteArray} : ∀ d i, dif k u v d i = none ↔ ∀ j, i ≤ j → j < i + d → isP (txt k j) u = isP (txt k j) v
  | 0, i => by simp [dif]; intro j h1 h2; omega
  | d + 1, i => by
    simp only [dif]
    split
    · rename_i he
      rw [dif_none d (i + 1)]
      constructor
      · intro h j h1 h2
        by_cases e : j = i
        · subst e; exact he
        · exact h j (by omega) (by omega)
      · intro h j h1 h2; exact h j (by omega) (by omega)
    · rename_i he
      constructor
      · intro h; cases h
      · intro h; exact absurd (h i (by omega) (by omega)) he
theorem dif_some {k : Nat} {u v : ByteArray} {j : Nat} : ∀ d i, dif k u v d i = some j → i ≤ j ∧ j < i + d ∧ isP (txt k j) u ≠ isP (txt k j) v
  | 0, i, h => by simp [dif] at h
  | d + 1, i, h => by
    simp only [dif] at h
    split at h
    · obtain ⟨a, b, c⟩ := dif_some d (i + 1) h
      exact ⟨by omega, by omega, c⟩
    · rename_i he
      cases h
      exact ⟨by omega, by omega, he⟩

theorem num_of {k : Nat} (hk1 : 1 ≤ k) (hk : k ≤ 100) : ∀ (m : Nat) (p : List UInt8), p.length = m → WdL k p → ∃ j, wb k j = p
  | 0, p, hp, _ => ⟨0, by rw [wb_zero, List.eq_nil_of_length_eq_zero hp]⟩
  | m + 1, p, hp, hw => by
    have hne : p ≠ [] := fun e => by simp [e] at hp
    obtain ⟨q, b, rfl⟩ : ∃ q b, p = q ++ [b] := ⟨p.dropLast, p.getLast hne, (List.dropLast_concat_getLast hne).symm⟩
    obtain ⟨h1, h2⟩ := WdL.append.1 hw
    obtain ⟨j, hj⟩ := num_of hk1 hk m q (by simp at hp; omega) h1
    have hb := h2 b (by simp)
    refine ⟨k * j + (b.toNat - 97) + 1, ?_⟩
    rw [wb_step (by omega), hj]
    congr 2
    apply UInt8.toNat_inj.1
    simp only [UInt8.toNat_ofNat']
    omega
theorem num_lt {k : Nat} (hk1 : 1 ≤ k) {n j : Nat} (h : (wb k j).length ≤ n) : j < sho k (n + 1) := by
  have e : (wl k j).length = (wb k j).length := by simp [wb]
  have := ((wl_len hk1 j _).1 e).2
  have := sho_mono (k := k) (show (wb k j).length + 1 ≤ n + 1 by omega)
  omega
theorem wb_len {k j n : Nat} (hk1 : 1 ≤ k) (h : j < sho k (n + 1)) : (wb k j).length ≤ n := by
  have := txt_size hk1 h
  rw [txt_eq, strOf_size] at this
  simpa [wb] using this

theorem dif_alike {k n : Nat} (hk1 : 1 ≤ k) (hk : k ≤ 8) {u v : ByteArray} (hu : Wd k u) (hv : Wd k v) : dif k u v (sho k (n + 1)) 0 = none ↔ Alike n (bl u) (bl v) := by
  rw [dif_none]
  constructor
  · intro h p hp
    by_cases hw : WdL k p
    · obtain ⟨j, rfl⟩ := num_of hk1 (by omega) _ p rfl hw
      have := h j (by omega) (by have := num_lt hk1 hp; omega)
      rw [Bool.eq_iff_iff, isP_iff, isP_iff, bl_txt] at this
      exact this
    · constructor
      · intro hs; exact absurd (fun b hb => (wd_iff k u).1 hu b (hs.subset hb)) hw
      · intro hs; exact absurd (fun b hb => (wd_iff k v).1 hv b (hs.subset hb)) hw
  · intro h j _ hj
    rw [Bool.eq_iff_iff, isP_iff, isP_iff, bl_txt]
    exact h _ (wb_len hk1 (by omega))

theorem chk_zero {k : Nat} (hk1 : 1 ≤ k) (hk : k ≤ 8) {w : ByteArray} : chk k w = 0 ↔ Wd k w := by
  unfold chk
  rw [if_neg (by omega), Int.toNat_natCast]
  constructor
  · intro h
    split at h
    · rename_i h1; exact (okW_iff _ _).1 h1
    · cases h
  · intro h
    rw [if_pos ((okW_iff _ _).2 h)]
theorem pchk_zero {k n : Nat} (hk1 : 1 ≤ k) (hk : k ≤ 8) (hn : n ≤ 4) {u v : ByteArray} (hu : Wd k u) (hv : Wd k v) : pchk k n [u, v] = 0 := by
  unfold pchk
  rw [if_neg (by omega), if_neg (by omega)]
  simp only [chks, (chk_zero hk1 hk).2 hu, (chk_zero hk1 hk).2 hv, if_true]

theorem difV_ok {k n : Nat} (hk1 : 1 ≤ k) (hk : k ≤ 8) (hn : n ≤ 4) {u v : ByteArray} (hu : Wd k u) (hv : Wd k v) :
    difV k n u v = match dif k u v (sho k (n + 1)) 0 with | some j => (txt k j, true, 0) | none => (⟨#[]⟩, false, 0) := by
  unfold difV
  rw [if_pos (pchk_zero hk1 hk hn hu hv), Int.toNat_natCast, Int.toNat_natCast]
  cases dif k u v (sho k (n + 1)) 0 <;> rfl
theorem sameV_alike {k n : Nat} (hk1 : 1 ≤ k) (hk : k ≤ 8) (hn : n ≤ 4) {u v : ByteArray} (hu : Wd k u) (hv : Wd k v) (h : Alike n (bl u) (bl v)) : sameV k n u v = (true, 0) := by
  unfold sameV
  rw [difV_ok hk1 hk hn hu hv, (dif_alike hk1 hk hu hv).2 h]
  rfl
theorem sameV_code {k n : Nat} (hk1 : 1 ≤ k) (hk : k ≤ 8) (hn : n ≤ 4) {u v : ByteArray} (hu : Wd k u) (hv : Wd k v) : (sameV k n u v).2 = 0 := by
  unfold sameV
  rw [difV_ok hk1 hk hn hu hv]
  cases dif k u v (sho k (n + 1)) 0 <;> rfl
theorem sameV_iff {k n : Nat} (hk1 : 1 ≤ k) (hk : k ≤ 8) (hn : n ≤ 4) {u v : ByteArray} (hu : Wd k u) (hv : Wd k v) : (sameV k n u v).1 = true ↔ Alike n (bl u) (bl v) := by
  rw [← dif_alike hk1 hk hu hv]
  unfold sameV
  rw [difV_ok hk1 hk hn hu hv]
  cases dif k u v (sho k (n + 1)) 0 <;> simp

/-- May it be asked? -/
def mayV (k n : Int) (w : ByteArray) : Bool := decide (chk k w = 0) && (decide (0 ≤ n) && decide (n ≤ 4))
theorem c15 (k n : Int) (w : ByteArray) (hs : w.size < 9223372036854775807) (prot : Nat) (H : AHeap) : callInf cfg 15 [.int .i64 k, .int .i64 n, .string w] prot H = some (.bool (mayV k n w), H) := by
  have hc := c31 k w hs H.length H
  unfold mayV
  by_cases h1 : chk k w = 0
  · rw [decide_eq_true h1, Bool.true_and]
    by_cases h2 : 0 ≤ n
    · rw [decide_eq_true h2, Bool.true_and]
      exact f15_F_0 k n w H prot _ hc (by simpa using h1) h2
    · rw [decide_eq_false h2, Bool.false_and]
      exact f15_F_1 k n w H prot _ hc (by simpa using h1) h2
  · rw [decide_eq_false h1, Bool.false_and]
    exact f15_F_2 k n w H prot _ hc (by simpa using h1)
theorem mayV_ok {k n : Int} {w : ByteArray} (h : mayV k n w = true) : ∃ k' n' : Nat, k = k' ∧ n = n' ∧ 1 ≤ k' ∧ k' ≤ 8 ∧ n' ≤ 4 ∧ Wd k' w := by
  unfold mayV at h
  simp only [Bool.and_eq_true, decide_eq_true_eq] at h
  obtain ⟨h1, h2, h3⟩ := h
  have hk : 1 ≤ k ∧ k ≤ 8 := by
    unfold chk at h1
    split at h1
    · cases h1
    · omega
  refine ⟨k.toNat, n.toNat, by omega, by omega, by omega, by omega, by omega, ?_⟩
  refine (chk_zero (by omega) (by omega)).1 ?_
  rw [show ((k.toNat : Nat) : Int) = k by omega]
  exact h1

/-- n times a word. -/
def pow (w : ByteArray) : Nat → ByteArray
  | 0 => ⟨#[]⟩
  | n + 1 => pow w n ++ w
theorem pow_size (w : ByteArray) : ∀ n, (pow w n).size = n * w.size
  | 0 => by rw [Nat.zero_mul]; rfl
  | n + 1 => by simp only [pow, ByteArray.size_append, pow_size w n, Nat.add_mul, Nat.one_mul]
theorem loop17 (w : ByteArray) {n : Nat} (hn : n ≤ 5) (hs : n * w.size ≤ 9223372036854775807) (H0 H : AHeap) (prot : Nat) : ∀ (d i : Nat), i + d = n →
    lpInf (lpOf cfg a17 0 prot H0) ([.string w, .int .i64 n, .string (pow w i), .int .i64 i], H) = some (.exit 0, [.string (pow w n)], H)
  | 0, i, hi => by
    have : i = n := by omega
    subst this
    exact lp_last (f17_L0_1 w i (pow w i) i H0 prot H (by omega))
  | d + 1, i, hi => by
    refine lp_next (f17_L0_0 w n (pow w i) i H0 prot H (by omega) ?_ (fit64 (by omega) (by omega))) (loop17 w hn hs H0 H prot d (i + 1) (by omega))
    have := pow_size w (i + 1)
    simp only [pow, ByteArray.size_append] at this
    have h2 := Nat.mul_le_mul (show i + 1 ≤ n by omega) (Nat.le_refl w.size)
    omega
theorem c17 (w : ByteArray) {n : Nat} (hn : n ≤ 5) (hs : n * w.size ≤ 9223372036854775807) (prot : Nat) (H : AHeap) : callInf cfg 17 [.string w, .int .i64 n] prot H = some (.string (pow w n), H) :=
  f17_F_0 w n H prot _ H (loop17 w hn hs H H prot n 0 (by omega))
end Go.Proofs.Ytedfombojnfbiaa.Am24
namespace Go.Proofs.Ytedfombojnfbiaa.Am
open Go

theorem apure_pure {α : Type} (P : Program) (a : α) : apure P (pure a : Sem α) = some a := rfl
theorem apure_underlying {P : Program} {t : TypeId} {d : TypeDesc} (h : P.underlying t = some d) : apure P (underlying t) = some d := by
  unfold underlying
  rw [apure_bind]
  show (some P).bind _ = _
  rw [Option.bind_some, h]
  rfl

def runFold (P : Program) {α β : Type} (f : α → β → Sem (ForInStep β)) : List α → β → Option β
  | [], b => some b
  | a :: l, b => (apure P (f a b)).bind fun r =>
    match r with
    | .done b => some b
    | .yield b => runFold P f l b
theorem apure_forIn {α β : Type} (P : Program) (f : α → β → Sem (ForInStep β)) : ∀ (l : List α) (b : β), apure P (forIn l b f) = runFold P f l b
  | [], b => by simp [apure_pure, runFold]
  | a :: l, b => by
    rw [List.forIn_cons, apure_bind]
    simp only [runFold]
    congr 1
    funext r
    cases r with
    | done b => rfl
    | yield b => exact apure_forIn P f l b

theorem apure_int {P : Program} {e : TypeId} {q : IntKind} (he : P.underlying e = some (.int q)) (d : Nat) (a b : Int) : apure P (Op.equalIn (d + 1) e (.int q a) (.int q b)) = some (a == b) := by
  simp only [Op.equalIn, apure_bind, apure_underlying he, Option.bind_some]
  rw [if_pos trivial]
  rfl

theorem apure_part {P : Program} {e : TypeId} {q : IntKind} (he : P.underlying e = some (.int q)) (xs : List Int) {i : Nat} {a : Int} (ha : xs[i]? = some a) : apure P (part e (xs.map (Value.int q)).toArray (i * 1)) = some (.int q a) := by
  have hag : apure P (isAgg e) = some false := by
    unfold isAgg
    simp only [apure_bind, apure_underlying he, Option.bind_some]
    rfl
  unfold part
  simp only [apure_bind, hag, Option.bind_some]
  simp [ha, apure_pure]

def stepEq (P : Program) (e : TypeId) (q : IntKind) (d : Nat) (xs ys : List Int) (i : Nat) : Sem (ForInStep (Option Bool × Unit)) := do
  let a ← part e (xs.map (Value.int q)).toArray (i * 1)
  let b ← part e (ys.map (Value.int q)).toArray (i * 1)
  let r ← Op.equalIn (d + 1) e a b
  if (!r) = true then pure (ForInStep.done (some false, ())) else pure (ForInStep.yield (none, ()))

theorem apure_stepEq {P : Program} {e : TypeId} {q : IntKind} (he : P.underlying e = some (.int q)) (d : Nat) (xs ys : List Int) {i : Nat} {a b : Int} (ha : xs[i]? = some a) (hb : ys[i]? = some b) :
    apure P (stepEq P e q d xs ys i) = some (if a = b then .yield (none, ()) else .done (some false, ())) := by
  unfold stepEq
  simp only [apure_bind, apure_part he xs ha, apure_part he ys hb, apure_int he, Option.bind_some]
  by_cases h : a = b
  · subst h; simp [apure_pure]
  · simp [h, apure_pure]

theorem fold_eq {P : Program} {e : TypeId} {q : IntKind} (he : P.underlying e = some (.int q)) (d : Nat) (xs ys : List Int) : ∀ (m i : Nat), i + m = xs.length → i + m = ys.length →
    runFold P (fun i (_ : Option Bool × Unit) => stepEq P e q d xs ys i) (List.range' i m) (none, ()) = some (if xs.drop i = ys.drop i then (none, ()) else (some false, ()))
  | 0, i, h1, h2 => by
    rw [List.drop_of_length_le (by omega), List.drop_of_length_le (by omega)]
    simp [runFold]
  | m + 1, i, h1, h2 => by
    have hx : i < xs.length := by omega
    have hy : i < ys.length := by omega
    simp only [List.range'_succ, runFold]
    rw [apure_stepEq he d xs ys (List.getElem?_eq_getElem hx) (List.getElem?_eq_getElem hy), Option.bind_some]
    rw [List.drop_eq_getElem_cons hx, List.drop_eq_getElem_cons hy]
    by_cases h : xs[i] = ys[i]
    · rw [if_pos h]
      simp only
      rw [fold_eq he d xs ys m (i + 1) (by omega) (by omega), h]
      simp only [List.cons.injEq, true_and]
    · rw [if_neg h, if_neg (fun hh => h (by injection hh))]

theorem apure_equal_arr {P : Program} {t e : TypeId} {n : Nat} {q : IntKind} (hu : P.underlying t = some (.array n e)) (he : P.underlying e = some (.int q)) (hs : apure P (sizeOf e) = some 1) (d : Nat) (xs ys : List Int) (hx : xs.length = n) (hy : ys.length = n) :
    apure P (Op.equalIn (d + 2) t (.agg (xs.map (Value.int q)).toArray) (.agg (ys.map (Value.int q)).toArray)) = some (decide (xs = ys)) := by
  unfold Op.equalIn
  simp only [apure_bind, apure_underlying hu, hs, Option.bind_some]
  rw [Std.Legacy.Range.forIn_eq_forIn_range']
  have hstep : ∀ i : Nat, (fun (__s : Option Bool × Unit) => (do
            let a ← part e (List.map (Value.int q) xs).toArray (i * 1)
            let b ← part e (List.map (Value.int q) ys).toArray (i * 1)
            let r ← Op.equalIn (d + 1) e a b
            if (!r) = true then pure (ForInStep.done (some false, ()))
              else pure (ForInStep.yield (none, ())) : Sem (ForInStep (Option Bool × Unit)))) = fun _ => stepEq P e q d xs ys i := fun i => rfl
  have hz : (Std.Legacy.Range.size [:n]) = n := by simp [Std.Legacy.Range.size]
  rw [hz]
  have h2 := fold_eq he d xs ys n 0 (by omega) (by omega)
  have := (apure_forIn P (fun i (_ : Option Bool × Unit) => stepEq P e q d xs ys i) (List.range' 0 n) (none, ())).trans h2
  have h3 : apure P (forIn (List.range' 0 n) ((none : Option Bool), ()) fun i (__s : Option Bool × Unit) => (do
            let a ← part e (List.map (Value.int q) xs).toArray (i * 1)
            let b ← part e (List.map (Value.int q) ys).toArray (i * 1)
            let r ← Op.equalIn (d + 1) e a b
            if (!r) = true then pure (ForInStep.done (some false, ()))
              else pure (ForInStep.yield (none, ())) : Sem (ForInStep (Option Bool × Unit)))) = _ := this
  rw [h3, Option.bind_some, List.drop_zero, List.drop_zero]
  by_cases h : xs = ys
  · subst h; simp [apure_pure]
  · simp [h, apure_pure]

/-! ### Arrays of whole numbers as keys -/
def keyV (q : IntKind) (xs : List Int) : Value := .agg (xs.map (Value.int q)).toArray

theorem apure_check_int {P : Program} {e : TypeId} {q : IntKind} (he : P.underlying e = some (.int q)) (emp : Bool) (d : Nat) (a : Int) : apure P (Instr.checkKey emp (d + 1) e (.int q a)) = some () := by
  unfold Instr.checkKey
  simp only [apure_bind, apure_underlying he, Option.bind_some]
  rfl
def stepCk (emp : Bool) (e : TypeId) (q : IntKind) (d : Nat) (xs : List Int) (i : Nat) : Sem (ForInStep Unit) := do
  let n ← sizeOf e
  let a ← part e (xs.map (Value.int q)).toArray (i * n)
  Instr.checkKey emp (d + 1) e a
  pure (ForInStep.yield ())
theorem fold_ck {P : Program} {e : TypeId} {q : IntKind} (he : P.underlying e = some (.int q)) (hs : apure P (sizeOf e) = some 1) (emp : Bool) (d : Nat) (xs : List Int) : ∀ (m i : Nat), i + m = xs.length →
    runFold P (fun i (_ : Unit) => stepCk emp e q d xs i) (List.range' i m) () = some ()
  | 0, i, _ => rfl
  | m + 1, i, h => by
    have hx : i < xs.length := by omega
    simp only [List.range'_succ, runFold]
    have : apure P (stepCk emp e q d xs i) = some (.yield ()) := by
      unfold stepCk
      simp only [apure_bind, hs, apure_part he xs (List.getElem?_eq_getElem hx), apure_check_int he, Option.bind_some]
      rfl
    rw [this, Option.bind_some]
    exact fold_ck he hs emp d xs m (i + 1) (by omega)
theorem apure_check_arr {P : Program} {t e : TypeId} {n : Nat} {q : IntKind} (hu : P.underlying t = some (.array n e)) (he : P.underlying e = some (.int q)) (hs : apure P (sizeOf e) = some 1) (emp : Bool) (d : Nat) (xs : List Int) (hx : xs.length = n) :
    apure P (Instr.checkKey emp (d + 2) t (keyV q xs)) = some () := by
  unfold Instr.checkKey keyV
  simp only [apure_bind, apure_underlying hu, Option.bind_some]
  rw [Std.Legacy.Range.forIn_eq_forIn_range']
  have hz : (Std.Legacy.Range.size [:n]) = n := by simp [Std.Legacy.Range.size]
  rw [hz]
  have h : apure P (forIn (List.range' 0 n) () fun i (_ : Unit) => stepCk emp e q d xs i) = some () := (apure_forIn P (fun i (_ : Unit) => stepCk emp e q d xs i) (List.range' 0 n) ()).trans (fold_ck he hs emp d xs n 0 (by omega))
  exact (congrArg (fun o => o.bind fun _ => apure P (pure ())) h).trans rfl

def kidx (xs : List Int) (ks : List (List Int)) : Option Nat := ks.findIdx? fun y => decide (xs = y)

theorem apure_ask {P : Program} {t e : TypeId} {n : Nat} {q : IntKind} (hu : P.underlying t = some (.array n e)) (he : P.underlying e = some (.int q)) (hs : apure P (sizeOf e) = some 1) (xs : List Int) (hx : xs.length = n) : ∀ (ks : List (List Int)) (l : List MapEntry) (i : Nat),
    l.map (·.key) = ks.map (keyV q) → (∀ y ∈ ks, y.length = n) → (apure P (Instr.findAsking t (keyV q xs) l i)).map (fun r => r.map (·.1)) = some ((kidx xs ks).map (· + i))
  | [], l, i, hl, _ => by
    have : l = [] := by simpa using hl
    subst this
    rfl
  | y :: ks, [], i, hl, _ => by simp at hl
  | y :: ks, x :: l, i, hl, hy => by
    simp only [List.map_cons, List.cons.injEq] at hl
    unfold Instr.findAsking
    rw [apure_bind, hl.1]
    have he2 : apure P (Op.equal t (keyV q xs) (keyV q y)) = some (decide (xs = y)) := apure_equal_arr hu he hs 9998 xs y hx (hy y List.mem_cons_self)
    rw [he2, Option.bind_some]
    unfold kidx
    rw [List.findIdx?_cons]
    by_cases h : xs = y
    · simp [h, apure_pure]
    · simp only [decide_eq_false h, Bool.false_eq_true, if_false]
      rw [apure_ask hu he hs xs hx ks l (i + 1) hl.2 (fun z hz => hy z (List.mem_cons_of_mem _ hz))]
      unfold kidx
      cases ks.findIdx? fun y => decide (xs = y) <;> simp <;> omega

theorem afind_arr {P : Program} {t e : TypeId} {n : Nat} {q : IntKind} (hu : P.underlying t = some (.array n e)) (he : P.underlying e = some (.int q)) (hs : apure P (sizeOf e) = some 1) (xs : List Int) (hx : xs.length = n) (ks : List (List Int)) (es : List (Value × Value))
    (hk : es.map (·.1) = ks.map (keyV q)) (hy : ∀ y ∈ ks, y.length = n) : afind P t (keyV q xs) es = some (kidx xs ks) := by
  have hl : (keysOf es).map (·.key) = ks.map (keyV q) := by rw [← hk]; simp [keysOf]
  have ha := apure_ask hu he hs xs hx ks (keysOf es) 0 hl hy
  unfold afind
  unfold Instr.findKey
  rw [apure_bind, apure_underlying hu, Option.bind_some]
  cases hks : keysOf es with
  | nil =>
    rw [hks] at hl
    have : ks = [] := by simpa using hl.symm
    subst this
    rfl
  | cons x l =>
    rw [← hks]
    have hn : Instr.findNow (.array n e) (keyV q xs) (keysOf es) 0 = none := by
      rw [hks]
      unfold Instr.findNow
      have : Instr.sameNow (.array n e) (keyV q xs) x.key = none := by unfold Instr.sameNow; rfl
      rw [this]
    rw [hn]
    simp only
    rw [ha]
    simp
end Go.Proofs.Ytedfombojnfbiaa.Am
namespace Go.Proofs.Ytedfombojnfbiaa.Am24
open Go Go.Proofs.Ytedfombojnfbiaa.Am

/-- A word with a letter behind. -/
def ext1 (w : ByteArray) (l : Nat) : ByteArray := w ++ strOf [97 + l]
def findC (k N : Nat) (ws : List ByteArray) (w : ByteArray) : Option Nat := ws.findIdx? fun u => (dif k u w N 0).isNone
/-- The letters from l on, d of them, behind word number i. -/
def clsIn (k N i : Nat) : Nat → Nat → List ByteArray → List Nat → Option (List ByteArray × List Nat)
  | 0, _, ws, nx => some (ws, nx)
  | d + 1, l, ws, nx =>
    match findC k N ws (ext1 (ws.getD i ⟨#[]⟩) l) with
    | some j => clsIn k N i d (l + 1) ws (nx ++ [j])
    | none => if ws.length = 3000 then none else clsIn k N i d (l + 1) (ws ++ [ext1 (ws.getD i ⟨#[]⟩) l]) (nx ++ [ws.length])
def clsOut (k N : Nat) : Nat → Nat → List ByteArray → List Nat → Option (List ByteArray × List Nat)
  | 0, _, _, _ => none
  | f + 1, i, ws, nx => if i < ws.length then (clsIn k N i k 0 ws nx).bind fun r => clsOut k N f (i + 1) r.1 r.2 else some (ws, nx)
/-- All classes: the least words; where letters lead. -/
def clsV (k n : Nat) : Option (List ByteArray × List Nat) := clsOut k (sho k (n + 1)) 3001 0 [⟨#[]⟩] []

/-- What holds of the words. -/
structure WsOK (k : Nat) (ws : List ByteArray) : Prop where
  pos : 0 < ws.length
  le : ws.length ≤ 3000
  wd : ∀ w ∈ ws, Wd k w
  sz : ∀ (j : Nat) (w : ByteArray), ws[j]? = some w → w.size ≤ j

theorem ext1_size (w : ByteArray) (l : Nat) : (ext1 w l).size = w.size + 1 := by
  unfold ext1
  rw [ByteArray.size_append, strOf_size]
  rfl
theorem bl_ext1 (w : ByteArray) (l : Nat) : bl (ext1 w l) = bl w ++ [UInt8.ofNat (97 + l)] := by
  unfold ext1
  rw [bl_append]
  rfl
theorem wd_ext1 {k : Nat} (hk : k ≤ 8) {w : ByteArray} (hw : Wd k w) {l : Nat} (hl : l < k) : Wd k (ext1 w l) := by
  rw [wd_iff, bl_ext1, WdL.append]
  refine ⟨(wd_iff k w).1 hw, fun b hb => ?_⟩
  have : b = UInt8.ofNat (97 + l) := by simpa using hb
  subst this
  simp only [UInt8.toNat_ofNat']
  omega
theorem WsOK.push {k : Nat} (hk : k ≤ 8) {ws : List ByteArray} (h : WsOK k ws) {i l : Nat} (hi : i < ws.length) (hl : l < k) (hne : ¬ ws.length = 3000) : WsOK k (ws ++ [ext1 (ws.getD i ⟨#[]⟩) l]) := by
  have e : ws.getD i ⟨#[]⟩ = ws[i] := by simp [List.getD_eq_getElem?_getD, List.getElem?_eq_getElem hi]
  rw [e]
  refine ⟨by simp, by have := h.le; simp; omega, fun w hw => ?_, fun j w hj => ?_⟩
  · rcases List.mem_append.1 hw with hw | hw
    · exact h.wd w hw
    · have : w = ext1 ws[i] l := by simpa using hw
      rw [this]
      exact wd_ext1 hk (h.wd _ (List.getElem_mem hi)) hl
  · by_cases hjl : j < ws.length
    · rw [List.getElem?_append_left hjl] at hj
      exact h.sz j w hj
    · rw [List.getElem?_append_right (by omega)] at hj
      have hj0 : j - ws.length = 0 := by
        cases hh : j - ws.length with
        | zero => rfl
        | succ m => rw [hh] at hj; simp at hj
      rw [hj0] at hj
      simp only [List.getElem?_cons_zero, Option.some.injEq] at hj
      rw [← hj, ext1_size]
      have := h.sz i ws[i] (List.getElem?_eq_getElem hi)
      omega
theorem WsOK.first (k : Nat) : WsOK k [⟨#[]⟩] := by
  refine ⟨by simp, by simp, fun w hw => ?_, fun j w hj => ?_⟩
  · have : w = ⟨#[]⟩ := by simpa using hw
    subst this
    intro i hi
    have e : (⟨#[]⟩ : ByteArray).size = 0 := rfl
    rw [e] at hi
    omega
  · cases j with
    | zero =>
      have : w = ⟨#[]⟩ := by simpa using hj.symm
      subst this
      exact Nat.le_refl _
    | succ j => simp at hj

/-! ### Kinds of words -/
theorem kOf_snoc {k n : Nat} (w : ByteArray) (c : ByteArray) (hc : c.size = 1) : ∀ (d i : Nat) (ws : List Nat), i + d = w.size → kOf k n (w ++ c) (d + 1) i ws = withK k n (ltr (w ++ c) w.size) (kOf k n w d i ws)
  | 0, i, ws, h => by
    have : i = w.size := by omega
    subst this
    rfl
  | d + 1, i, ws, h => by
    rw [show kOf k n (w ++ c) (d + 1 + 1) i ws = kOf k n (w ++ c) (d + 1) (i + 1) (withK k n (ltr (w ++ c) i) ws) from rfl]
    rw [kOf_snoc w c hc d (i + 1) _ (by omega)]
    have hl : ltr (w ++ c) i = ltr w i := by
      have hi : i < w.size := by omega
      have h1 := bl_get (s := w ++ c) (i := i) (by rw [ByteArray.size_append]; omega)
      rw [bl_append, List.getElem?_append_left (by rw [bl_len]; exact hi), bl_get hi] at h1
      unfold ltr
      rw [Option.some.inj h1]
    rw [hl]
    rfl
theorem kind_ext1 {k n : Nat} {w : ByteArray} {l : Nat} (hl : l < 100) : kindOf k n (ext1 w l) = withK k n l (kindOf k n w) := by
  unfold kindOf
  have hs := ext1_size w l
  have h1 : (strOf [97 + l]).size = 1 := by rw [strOf_size]; rfl
  rw [hs]
  unfold ext1
  rw [kOf_snoc w (strOf [97 + l]) h1 w.size 0 firstW (by omega)]
  congr 1
  have h2 := bl_get (s := w ++ strOf [97 + l]) (i := w.size) (by rw [ByteArray.size_append]; omega)
  rw [bl_append, List.getElem?_append_right (by rw [bl_len]; exact Nat.le_refl _), bl_len, Nat.sub_self] at h2
  have h3 : (bl (strOf [97 + l]))[0]? = some (UInt8.ofNat (97 + l)) := rfl
  rw [h3] at h2
  unfold ltr
  rw [← Option.some.inj h2]
  simp only [UInt8.toNat_ofNat']
  omega

/-- No bit lies beyond the short words. -/
theorem kOf_hi {k n : Nat} (hk1 : 1 ≤ k) (hk : k ≤ 8) (hn : n ≤ 4) {w : ByteArray} (hw : Wd k w) {j : Nat} (hj : sho k (n + 1) ≤ j) : ∀ (d p : Nat) (ws : List Nat), p + d = w.size → KOK ws → bitW ws j = false → bitW (kOf k n w d p ws) j = false
  | 0, p, ws, hp, h, hb => hb
  | d + 1, p, ws, hp, h, hb => by
    simp only [kOf]
    have hc := hw p (by omega)
    have hl : ltr w p < k := by unfold ltr; omega
    refine kOf_hi hk1 hk hn hw hj d (p + 1) _ (by omega) (withK_ok h) ?_
    cases hh : bitW (withK k n (ltr w p) ws) j with
    | false => rfl
    | true =>
      rcases (withK_bits hk hn hl h j).1 hh with h1 | ⟨q, h1, h2, h3⟩
      · rw [hb] at h1; cases h1
      · have hss := sho_succ k n
        have := Nat.mul_le_mul (Nat.le_refl k) (show q + 1 ≤ sho k n by omega)
        rw [Nat.mul_add] at this
        omega
theorem kind_hi {k n : Nat} (hk1 : 1 ≤ k) (hk : k ≤ 8) (hn : n ≤ 4) {w : ByteArray} (hw : Wd k w) {j : Nat} (hj : sho k (n + 1) ≤ j) : bitW (kindOf k n w) j = false := by
  refine kOf_hi hk1 hk hn hw hj w.size 0 firstW (by omega) firstOK ?_
  have hss := sho_succ k n
  unfold firstW
  rw [bit_add zeroOK (by omega)]
  have hz : bitW (List.replicate 74 0) j = false := by
    unfold bitW
    have : (List.replicate 74 0).getD (j / 64) 0 = 0 := by
      rw [List.getD_eq_getElem?_getD, List.getElem?_replicate]
      split <;> rfl
    rw [this]
    simp
  rw [hz]
  simp
  omega
theorem kok_ext {a b : List Nat} (ha : KOK a) (hb : KOK b) (h : ∀ j, bitW a j = bitW b j) : a = b := by
  apply List.ext_getElem (by rw [ha.1, hb.1])
  intro i h1 h2
  apply Nat.eq_of_testBit_eq
  intro m
  by_cases hm : m < 64
  · have := h (64 * i + m)
    unfold bitW at this
    have e1 : (64 * i + m) / 64 = i := by omega
    have e2 : (64 * i + m) % 64 = m := by omega
    rw [e1, e2] at this
    simpa [List.getD_eq_getElem?_getD, List.getElem?_eq_getElem h1, List.getElem?_eq_getElem h2] using this
  · have p1 := ha.2 _ (List.getElem_mem h1)
    have p2 := hb.2 _ (List.getElem_mem h2)
    have e : (18446744073709551616 : Nat) = 2 ^ 64 := by decide
    have p3 : 2 ^ 64 ≤ 2 ^ m := Nat.pow_le_pow_right (by omega) (by omega)
    rw [Nat.testBit_lt_two_pow (by omega), Nat.testBit_lt_two_pow (by omega)]
/-- Kinds are alike just where the words are. -/
theorem kind_eq {k n : Nat} (hk1 : 1 ≤ k) (hk : k ≤ 8) (hn : n ≤ 4) {u v : ByteArray} (hu : Wd k u) (hv : Wd k v) : kindOf k n u = kindOf k n v ↔ dif k u v (sho k (n + 1)) 0 = none := by
  rw [dif_none]
  constructor
  · intro h j _ hj
    rw [← kind_bits hk1 hk hn hu (by omega), ← kind_bits hk1 hk hn hv (by omega), h]
  · intro h
    refine kok_ext (kindOf_ok _ _ _) (kindOf_ok _ _ _) fun j => ?_
    by_cases hj : j < sho k (n + 1)
    · rw [kind_bits hk1 hk hn hu hj, kind_bits hk1 hk hn hv hj]
      exact h j (by omega) (by omega)
    · rw [kind_hi hk1 hk hn hu (by omega), kind_hi hk1 hk hn hv (by omega)]
theorem dif_symm {k : Nat} {u v : ByteArray} {N : Nat} : dif k u v N 0 = none ↔ dif k v u N 0 = none := by
  rw [dif_none, dif_none]
  exact ⟨fun h j a b => (h j a b).symm, fun h j a b => (h j a b).symm⟩
end Go.Proofs.Ytedfombojnfbiaa.Am24
namespace Go.Proofs.Ytedfombojnfbiaa.Am24
open Go Go.Proofs.Ytedfombojnfbiaa.Am

structure ClsOK (k N : Nat) (ws : List ByteArray) (nx : List Nat) : Prop where
  nxt : ∀ (q j : Nat), nx[q]? = some j → ∃ u v, ws[j]? = some u ∧ ws[q / k]? = some v ∧ dif k u (ext1 v (q % k)) N 0 = none
  dst : ∀ (i j : Nat) (u v : ByteArray), i < j → ws[i]? = some u → ws[j]? = some v → dif k u v N 0 ≠ none
  fst : ws[0]? = some ⟨#[]⟩

theorem snoc_get {α : Type} {l : List α} {a b : α} {q : Nat} (h : (l ++ [a])[q]? = some b) : (q < l.length ∧ l[q]? = some b) ∨ (q = l.length ∧ b = a) := by
  by_cases hq : q < l.length
  · rw [List.getElem?_append_left hq] at h
    exact .inl ⟨hq, h⟩
  · rw [List.getElem?_append_right (by omega)] at h
    cases hh : q - l.length with
    | zero =>
      rw [hh] at h
      simp only [List.getElem?_cons_zero, Option.some.injEq] at h
      exact .inr ⟨by omega, h.symm⟩
    | succ m => rw [hh] at h; simp at h

theorem clsIn_ok {k N i : Nat} : ∀ (d l : Nat) (ws : List ByteArray) (nx : List Nat) (r : List ByteArray × List Nat), l + d = k → i < ws.length → nx.length = i * k + l → ClsOK k N ws nx → clsIn k N i d l ws nx = some r → ClsOK k N r.1 r.2 ∧ r.2.length = i * k + k ∧ ws.length ≤ r.1.length
  | 0, l, ws, nx, r, hl, hi, hn, h, e => by
    simp only [clsIn, Option.some.injEq] at e
    subst e
    exact ⟨h, by simp only; omega, Nat.le_refl _⟩
  | d + 1, l, ws, nx, r, hl, hi, hn, h, e => by
    have hgd : ws.getD i ⟨#[]⟩ = ws[i] := by simp [List.getD_eq_getElem?_getD, List.getElem?_eq_getElem hi]
    have hdiv : (i * k + l) / k = i := by rw [Nat.mul_comm, Nat.mul_add_div (by omega), Nat.div_eq_of_lt (by omega)]; rfl
    have hmod : (i * k + l) % k = l := by rw [Nat.mul_comm, Nat.mul_add_mod]; exact Nat.mod_eq_of_lt (by omega)
    simp only [clsIn] at e
    rw [hgd] at e
    cases hf : findC k N ws (ext1 ws[i] l) with
    | some j =>
      rw [hf] at e
      simp only at e
      unfold findC at hf
      obtain ⟨hj, hp, _⟩ := List.findIdx?_eq_some_iff_getElem.1 hf
      have hp' : dif k ws[j] (ext1 ws[i] l) N 0 = none := by simpa using hp
      refine clsIn_ok d (l + 1) ws (nx ++ [j]) r (by omega) hi (by simp; omega) ⟨fun q m hq => ?_, h.dst, h.fst⟩ e
      rcases snoc_get hq with ⟨_, hq⟩ | ⟨hq2, rfl⟩
      · exact h.nxt q m hq
      · rw [hq2, hn, hdiv, hmod]
        exact ⟨ws[m], ws[i], List.getElem?_eq_getElem hj, List.getElem?_eq_getElem hi, hp'⟩
    | none =>
      rw [hf] at e
      simp only at e
      split at e
      · cases e
      · unfold findC at hf
        have hno := List.findIdx?_eq_none_iff.1 hf
        have hself : dif k (ext1 ws[i] l) (ext1 ws[i] l) N 0 = none := (dif_none _ _).2 fun _ _ _ => rfl
        have := clsIn_ok d (l + 1) (ws ++ [ext1 ws[i] l]) (nx ++ [ws.length]) r (by omega) (by simp; omega) (by simp; omega) ⟨fun q m hq => ?_, fun a b u v hab hu hv => ?_, by rw [List.getElem?_append_left (by omega)]; exact h.fst⟩ e
        · exact ⟨this.1, this.2.1, by have := this.2.2; simp at this; omega⟩
        · rcases snoc_get hq with ⟨_, hq⟩ | ⟨hq2, rfl⟩
          · obtain ⟨u, v, h1, h2, h3⟩ := h.nxt q m hq
            have b1 := (List.getElem?_eq_some_iff.1 h1).1
            have b2 := (List.getElem?_eq_some_iff.1 h2).1
            exact ⟨u, v, by rw [List.getElem?_append_left b1]; exact h1, by rw [List.getElem?_append_left b2]; exact h2, h3⟩
          · rw [hq2, hn, hdiv, hmod]
            exact ⟨ext1 ws[i] l, ws[i], by simp, by rw [List.getElem?_append_left hi]; exact List.getElem?_eq_getElem hi, hself⟩
        · rcases snoc_get hv with ⟨hb, hv⟩ | ⟨hb, rfl⟩
          · rcases snoc_get hu with ⟨_, hu⟩ | ⟨ha, _⟩
            · exact h.dst a b u v hab hu hv
            · omega
          · rcases snoc_get hu with ⟨_, hu⟩ | ⟨ha, _⟩
            · have := hno u (List.mem_of_getElem? hu)
              intro hh
              rw [hh] at this
              cases this
            · omega

theorem clsOut_ok {k N : Nat} : ∀ (f i : Nat) (ws : List ByteArray) (nx : List Nat) (r : List ByteArray × List Nat), i ≤ ws.length → nx.length = i * k → ClsOK k N ws nx → clsOut k N f i ws nx = some r → ClsOK k N r.1 r.2 ∧ r.2.length = r.1.length * k
  | 0, i, ws, nx, r, hi, hn, h, e => by simp [clsOut] at e
  | f + 1, i, ws, nx, r, hi, hn, h, e => by
    simp only [clsOut] at e
    split at e
    · rename_i hlt
      cases hc : clsIn k N i k 0 ws nx with
      | none => rw [hc] at e; cases e
      | some r' =>
        rw [hc, Option.bind_some] at e
        obtain ⟨h1, h2, h3⟩ := clsIn_ok k 0 ws nx r' (by omega) hlt (by omega) h hc
        exact clsOut_ok f (i + 1) r'.1 r'.2 r (by omega) (by rw [h2, Nat.add_mul, Nat.one_mul]) h1 e
    · cases e
      have : i = ws.length := by omega
      subst this
      exact ⟨h, hn⟩
theorem cls_ok {k n : Nat} {r : List ByteArray × List Nat} (h : clsV k n = some r) : ClsOK k (sho k (n + 1)) r.1 r.2 ∧ r.2.length = r.1.length * k :=
  clsOut_ok 3001 0 [⟨#[]⟩] [] r (by simp) (by simp) ⟨fun q j hq => by simp at hq, fun i j u v hij hu hv => by
    cases j with
    | zero => omega
    | succ j => simp at hv, rfl⟩ h

/-- Where the letters of a word lead. -/
def wlk (k : Nat) (nx : List Nat) (w : ByteArray) : Nat → Nat → Nat → Nat
  | 0, _, a => a
  | d + 1, p, a => wlk k nx w d (p + 1) (nx.getD (a * k + ltr w p) 0)

theorem letter_of {k : Nat} (hk : k ≤ 100) {w : ByteArray} (hw : Wd k w) {p : Nat} (hp : p < w.size) : ltr w p < k ∧ (bl w).take (p + 1) = (bl w).take p ++ [UInt8.ofNat (97 + ltr w p)] := by
  have hc := hw p hp
  have hlt : (w.get! p).toNat < 256 := (w.get! p).toNat_lt
  refine ⟨by unfold ltr; omega, ?_⟩
  rw [List.take_add_one, bl_get hp]
  congr 1
  simp only [Option.toList_some, List.cons.injEq, and_true]
  apply UInt8.toNat_inj.1
  simp only [UInt8.toNat_ofNat']
  unfold ltr
  omega

theorem alike_snoc {n : Nat} {l m : List UInt8} {c : UInt8} (h : Alike n l m) : Alike n (l ++ [c]) (m ++ [c]) := by
  have one : ∀ l m : List UInt8, Alike n l m → ∀ p : List UInt8, p.length ≤ n → p.Sublist (l ++ [c]) → p.Sublist (m ++ [c]) := fun l m h p hp hs => by
    obtain ⟨p1, p3, rfl, h1, h3⟩ := List.sublist_append_iff.1 hs
    simp only [List.length_append] at hp
    exact ((h p1 (by omega)).1 h1).append h3
  exact fun p hp => ⟨one l m h p hp, one m l (fun q hq => (h q hq).symm) p hp⟩

theorem wlk_ok {k n : Nat} (hk1 : 1 ≤ k) (hk : k ≤ 8) {ws : List ByteArray} {nx : List Nat} (h : ClsOK k (sho k (n + 1)) ws nx) (hl : nx.length = ws.length * k) (hws : ∀ w ∈ ws, Wd k w) {w : ByteArray} (hw : Wd k w) : ∀ (d p a : Nat), p + d = w.size → (∃ u, ws[a]? = some u ∧ Alike n (bl u) ((bl w).take p)) →
    ∃ u, ws[wlk k nx w d p a]? = some u ∧ Alike n (bl u) (bl w)
  | 0, p, a, hp, ⟨u, h1, h2⟩ => by
    rw [List.take_of_length_le (by rw [bl_len]; omega)] at h2
    exact ⟨u, h1, h2⟩
  | d + 1, p, a, hp, ⟨u, h1, h2⟩ => by
    obtain ⟨hlk, ht⟩ := letter_of (by omega) hw (show p < w.size by omega)
    simp only [wlk]
    refine wlk_ok hk1 hk h hl hws hw d (p + 1) _ (by omega) ?_
    have ha : a < ws.length := (List.getElem?_eq_some_iff.1 h1).1
    have hq : a * k + ltr w p < nx.length := by
      have := Nat.mul_le_mul (show a + 1 ≤ ws.length by omega) (Nat.le_refl k)
      rw [Nat.add_mul, Nat.one_mul] at this
      omega
    have hdiv : (a * k + ltr w p) / k = a := by rw [Nat.mul_comm, Nat.mul_add_div (by omega), Nat.div_eq_of_lt (by omega)]; rfl
    have hmod : (a * k + ltr w p) % k = ltr w p := by rw [Nat.mul_comm, Nat.mul_add_mod]; exact Nat.mod_eq_of_lt (by omega)
    have hget : nx.getD (a * k + ltr w p) 0 = nx[a * k + ltr w p] := by simp [List.getD_eq_getElem?_getD, List.getElem?_eq_getElem hq]
    obtain ⟨u', v', g1, g2, g3⟩ := h.nxt _ _ (List.getElem?_eq_getElem hq)
    rw [hdiv] at g2
    rw [hmod] at g3
    have : v' = u := Option.some.inj (g2.symm.trans h1)
    subst this
    refine ⟨u', by rw [hget]; exact g1, ?_⟩
    have wv := hws v' (List.mem_of_getElem? h1)
    have wu := hws u' (List.mem_of_getElem? g1)
    have hal := (dif_alike hk1 hk wu (wd_ext1 hk wv hlk)).1 g3
    rw [bl_ext1] at hal
    rw [ht]
    have h3 := alike_snoc (c := UInt8.ofNat (97 + ltr w p)) h2
    exact fun q hq => (hal q hq).trans (h3 q hq)

theorem Alike.symm {n : Nat} {l m : List UInt8} (h : Alike n l m) : Alike n m l := fun p hp => (h p hp).symm
theorem Alike.trans {n : Nat} {l m o : List UInt8} (h : Alike n l m) (h2 : Alike n m o) : Alike n l o := fun p hp => (h p hp).trans (h2 p hp)

/-- Just one class is alike. -/
theorem cls_uniq {k n : Nat} (hk1 : 1 ≤ k) (hk : k ≤ 8) {ws : List ByteArray} {nx : List Nat} (h : ClsOK k (sho k (n + 1)) ws nx) (hws : ∀ w ∈ ws, Wd k w) {i j : Nat} {u v : ByteArray} (hu : ws[i]? = some u) (hv : ws[j]? = some v) (hal : Alike n (bl u) (bl v)) : i = j := by
  have wu := hws u (List.mem_of_getElem? hu)
  have wv := hws v (List.mem_of_getElem? hv)
  rcases Nat.lt_trichotomy i j with hlt | heq | hgt
  · exact absurd ((dif_alike hk1 hk wu wv).2 hal) (h.dst i j u v hlt hu hv)
  · exact heq
  · exact absurd ((dif_alike hk1 hk wv wu).2 (Alike.symm hal)) (h.dst j i v u hgt hv hu)
end Go.Proofs.Ytedfombojnfbiaa.Am24
set_option linter.unusedVariables false
open Go Go.Proofs.Ytedfombojnfbiaa.Am
namespace Go.Proofs.Ytedfombojnfbiaa.Am24
theorem f25_F_0 (x0 : ByteArray) (x1 : ByteArray) (H : AHeap) (prot : Nat) (h1 : ((↑x0.size : Int) != (↑x1.size : Int)) = true) (h2 : (↑x0.size : Int) < (↑x1.size : Int)) : callInf cfg 25 [.string x0, .string x1] prot H = some (Value.int IntKind.i64 (-1), H) :=
  fn_of a25 [.e, .e, .e, .b true, .e, .e, .e, .b true] (fun e => (((↑x0.size : Int) != (↑x1.size : Int)) = true) ∧ (decide ((↑x0.size : Int) < (↑x1.size : Int)) = true) ∧ e) (by kernel_rfl) ⟨h1, decide_eq_true h2, rfl⟩ rfl
theorem f25_F_1 (x0 : ByteArray) (x1 : ByteArray) (H : AHeap) (prot : Nat) (h1 : ((↑x0.size : Int) != (↑x1.size : Int)) = true) (h2 : ¬((↑x0.size : Int) < (↑x1.size : Int))) : callInf cfg 25 [.string x0, .string x1] prot H = some (Value.int IntKind.i64 1, H) :=
  fn_of a25 [.e, .e, .e, .b true, .e, .e, .e, .b false] (fun e => (((↑x0.size : Int) != (↑x1.size : Int)) = true) ∧ (decide ((↑x0.size : Int) < (↑x1.size : Int)) = false) ∧ e) (by kernel_rfl) ⟨h1, decide_eq_false h2, rfl⟩ rfl
theorem f25_F_2 (x0 : ByteArray) (x1 : ByteArray) (H : AHeap) (prot : Nat) (x17 : Int) (h1 : ((↑x0.size : Int) != (↑x1.size : Int)) = false) (h2 : callInf cfg 36 [Value.string x0, Value.string x1] (List.length H) H = some (Value.int IntKind.i64 x17, H)) : callInf cfg 25 [.string x0, .string x1] prot H = some (Value.int IntKind.i64 x17, H) :=
  fn_of a25 [.e, .e, .e, .b false, .v (.int .i64 x17)] (fun e => (((↑x0.size : Int) != (↑x1.size : Int)) = false) ∧ (callInf cfg 36 [Value.string x0, Value.string x1] (List.length H) H = some (Value.int IntKind.i64 x17, H)) ∧ e) (by kernel_rfl) ⟨h1, h2, rfl⟩ rfl
end Go.Proofs.Ytedfombojnfbiaa.Am24
set_option linter.unusedVariables false
open Go Go.Proofs.Ytedfombojnfbiaa.Am
namespace Go.Proofs.Ytedfombojnfbiaa.Am24
theorem f36_F_0 (x0 : ByteArray) (x1 : ByteArray) (H : AHeap) (prot : Nat) (x7 : Int) (h1 : callInf cfg 43 [Value.string x0, Value.string x1] (List.length H) H = some (Value.int IntKind.i64 x7, H)) : callInf cfg 36 [.string x0, .string x1] prot H = some (Value.int IntKind.i64 x7, H) :=
  fn_of a36 [.v (.int .i64 x7)] (fun e => (callInf cfg 43 [Value.string x0, Value.string x1] (List.length H) H = some (Value.int IntKind.i64 x7, H)) ∧ e) (by kernel_rfl) ⟨h1, rfl⟩ rfl
end Go.Proofs.Ytedfombojnfbiaa.Am24
set_option linter.unusedVariables false
open Go Go.Proofs.Ytedfombojnfbiaa.Am
namespace Go.Proofs.Ytedfombojnfbiaa.Am24
theorem f43_F_0 (x0 : ByteArray) (x1 : ByteArray) (H : AHeap) (prot : Nat) (x7 : Int) (h1 : acall { P := cfg.P, ext := cfg.ext, cl := callInf cfg, lp := lpInf, nt := a43.nt, prot := List.length H, mt := mtOf cfg, room := true } (Value.func (Fn.func 45) { toList := [] } { toList := [] }) [Value.string x0, Value.string x1] H = some (Value.int IntKind.i64 x7, H)) : callInf cfg 43 [.string x0, .string x1] prot H = some (Value.int IntKind.i64 x7, H) :=
  fn_of a43 [.v (.int .i64 x7)] (fun e => (acall { P := cfg.P, ext := cfg.ext, cl := callInf cfg, lp := lpInf, nt := a43.nt, prot := List.length H, mt := mtOf cfg, room := true } (Value.func (Fn.func 45) { toList := [] } { toList := [] }) [Value.string x0, Value.string x1] H = some (Value.int IntKind.i64 x7, H)) ∧ e) (by kernel_rfl) ⟨h1, rfl⟩ rfl
end Go.Proofs.Ytedfombojnfbiaa.Am24
