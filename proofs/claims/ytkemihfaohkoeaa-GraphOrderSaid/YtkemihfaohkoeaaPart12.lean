/- A part of the proof of a given statement: AmGrid, AmRd2, AmStr, AmArr, AmSet, AmGrow, AmStk, AmPw2, P11_25, P11_26, S11_A, S11_R, P11_39, P11_47, S11_B, P11_37, P11_36, P11_18, S11_C, S11_D, AmOwnE, S11_E, P11_46, P11_50, P11_38, P11_20, S11_F, P11_19, S11_G, P11_17, S11_W, P11_4, P11_13, Law11_4, S11_P, AmSets, P11_40, P11_22, S11_Q, P11_7, Law11_7. No condition. -/
import Derived.Test.YtkemihfaohkoeaaPart11
import Derived.Deep.Matrix
namespace Go.Proofs.Ytkemihfaohkoeaa.Am
open Go Go.RowKit Go.ChangeShapes Go.WideShapes

/-- A row of memory that is only read: its cells may hold slices. -/
theorem Sim.roV {P : Program} {w0 w : World} {μ : PMap} {H : AHeap} (h : Sim P w0 μ H w) (hnw : ∀ (id : Nat) (o : AObj), H[id]? = some o → writable o = false) {vs : List Value} {e b off : Nat} (hb : b < w.heap.size) (hc : ∀ i v, vs[i]? = some v → ∃ x, w.cell? ⟨b, off + i, none⟩ = some x ∧ VRel μ v x) :
    Sim P w0 (ext1 μ H.length vs.length ⟨b, off, 0, true⟩) (H ++ [.cells vs e vs.length .ro]) w ∧ Sub μ (ext1 μ H.length vs.length ⟨b, off, 0, true⟩) := by
  have hf : ∀ L, μ H.length L = none := fun L => by
    cases hh : μ H.length L with
    | none => rfl
    | some m => have := (h.dom _ _ _ hh).1; omega
  have hsub : Sub μ (ext1 μ H.length vs.length ⟨b, off, 0, true⟩) := ext1_sub (hf _)
  have old : ∀ {id L m}, ext1 μ H.length vs.length ⟨b, off, 0, true⟩ id L = some m → (id = H.length ∧ L = vs.length ∧ m = ⟨b, off, 0, true⟩) ∨ (id ≠ H.length ∧ μ id L = some m) := by
    intro id L m hm
    unfold ext1 at hm
    split at hm
    · rename_i hc; cases hm; exact .inl ⟨hc.1, hc.2, rfl⟩
    · refine .inr ⟨fun e => ?_, hm⟩
      rw [e, hf] at hm
      cases hm
  have hget : ∀ {id o}, (H ++ [AObj.cells vs e vs.length .ro])[id]? = some o → (id < H.length ∧ H[id]? = some o) ∨ (id = H.length ∧ o = .cells vs e vs.length .ro) := by
    intro id o ho
    by_cases hid : id < H.length
    · rw [List.getElem?_append_left hid] at ho
      exact .inl ⟨hid, ho⟩
    · rw [List.getElem?_append_right (by omega)] at ho
      cases hh : id - H.length with
      | zero => rw [hh] at ho; simp only [List.getElem?_cons_zero, Option.some.injEq] at ho; exact .inr ⟨by omega, ho.symm⟩
      | succ k => rw [hh] at ho; simp at ho
  refine ⟨⟨h.below, fun id L m hm => ?_, fun id L m hm => ?_, fun id L m cs e' wr md hm hH => ?_, fun id o ho => ?_, fun id id' o o' L L' m m' hne ho ho' hw hl hl' hm hm' => ?_⟩, hsub⟩
  · rcases old hm with ⟨h1, h2, h3⟩ | ⟨h1, h2⟩
    · subst h3; exact ⟨by simp; omega, hb⟩
    · have := h.dom id L m h2; exact ⟨by simp; omega, this.2⟩
  · rcases old hm with ⟨h1, h2, h3⟩ | ⟨h1, h2⟩
    · rw [h1, append_get.1]; simp
    · have := (h.dom id L m h2).1
      rw [List.getElem?_append_left this]
      exact h.nohole id L m h2
  · rcases old hm with ⟨h1, h2, h3⟩ | ⟨h1, h2⟩
    · rw [h1, append_get.1] at hH
      cases hH
      omega
    · have := (h.dom id L m h2).1
      rw [List.getElem?_append_left this] at hH
      exact h.ver id L m cs e' wr md h2 hH
  · rcases hget ho with ⟨hid, ho⟩ | ⟨hid, rfl⟩
    · refine (h.ok id o ho).keep hsub (fun L => ?_) fun _ _ _ _ => rfl
      exact ext1_ne (fun hh => by omega)
    · subst hid
      refine ⟨Nat.le_refl _, ⟨_, ext1_at _ _ _ _⟩, fun L m h1 h2 h3 => ?_⟩
      rcases old h3 with ⟨_, h5, rfl⟩ | ⟨h4, _⟩
      · refine ⟨fun i x _ hx => ?_, fun hh => by cases hh⟩
        obtain ⟨y, hy1, hy2⟩ := hc i x hx
        exact ⟨y, hy1, hy2.mono hsub⟩
      · exact absurd rfl h4
  · rcases hget ho with ⟨hid, ho⟩ | ⟨hid, rfl⟩
    · rcases hget ho' with ⟨hid', ho'⟩ | ⟨hid', rfl⟩
      · rcases old hm with ⟨h1, _, _⟩ | ⟨_, hm⟩
        · omega
        · rcases old hm' with ⟨h1, _, _⟩ | ⟨_, hm'⟩
          · omega
          · exact h.sep id id' o o' L L' m m' hne ho ho' hw hl hl' hm hm'
      · rw [hnw id o ho] at hw; cases hw
    · cases hw


/-- A slice of any cells in an argument. -/
theorem ArgSt.sliceV {P : Program} {W : World} {μ : PMap} {H : AHeap} (h : ArgSt P W μ H) {e : Nat} {x : Addr} {len cap : Nat} (vs : List Value) (hsp : x.spot = none ∧ x.block < W.heap.size) (hlen : vs.length = len)
    (hc : ∀ i v, vs[i]? = some v → ∃ y, W.cell? (x.add i) = some y ∧ VRel μ v y) (hcap : len ≤ cap) :
    ∃ av H' μ', ArgSt P W μ' H' ∧ Sub μ μ' ∧ VRel μ' av (.slice (some x) len cap) ∧ Rd H' e 1 av len vs ∧ Stay none H H' := by
  obtain ⟨b, off, spot⟩ := x
  obtain ⟨h1, h2⟩ := hsp
  simp only at h1 h2
  subst h1
  obtain ⟨s1, s2⟩ := h.sim.roV h.ro (vs := vs) (e := e) (b := b) (off := off) h2 (fun i v hv => by
    have := hc i v hv
    unfold Addr.add at this
    split at this
    · rename_i hi; subst hi; exact this
    · exact this)
  refine ⟨.slice (some ⟨H.length, 0, some vs.length⟩) len len, _, _, ⟨s1, fun id o ho => ?_⟩, s2, ?_, ⟨by omega, .inr ⟨H.length, vs.length, vs.length, .ro, len, vs, rfl, Nat.le_refl _, Nat.le_refl _, by omega, append_get.1, by rw [List.take_of_length_le (by omega)]⟩⟩, Stay.app none H _⟩
  · by_cases hid : id < H.length
    · rw [List.getElem?_append_left hid] at ho
      exact h.ro id o ho
    · rw [List.getElem?_append_right (by omega)] at ho
      cases hh : id - H.length with
      | zero => rw [hh] at ho; simp only [List.getElem?_cons_zero, Option.some.injEq] at ho; subst ho; rfl
      | succ k => rw [hh] at ho; simp at ho
  · exact VRel.slice (μ := ext1 μ H.length vs.length ⟨b, off, 0, true⟩) H.length 0 vs.length len len cap ⟨b, off, 0, true⟩ (ext1_at _ _ _ _) hcap (fun _ hh => by cases hh)

/-- Where a cell is, there is a block. -/
theorem cell_here {w : World} {a : Addr} {v : Value} (h : w.cell? a = some v) : a.spot = none ∧ a.block < w.heap.size := by
  unfold World.cell? at h
  split at h
  · rename_i c t f hh
    split at h
    · cases h
    · rename_i hs
      refine ⟨by simpa using hs, (Array.getElem?_eq_some_iff.1 hh).1⟩
  · cases h

/-- Rows of numbers, one behind the other. -/
theorem ArgSt.rows {P : Program} {W : World} {q : Nat} (A : Nat → Option Addr) (L C : Nat → Nat) (Z : Nat → List Int) : ∀ (n : Nat) {μ : PMap} {H : AHeap}, ArgSt P W μ H →
    (∀ r, r < n → L r ≤ C r ∧ (Z r).length = C r ∧ (A r = none → C r = 0) ∧ ∀ a', A r = some a' → ∀ c, c < C r → W.cell? (a'.add c) = some (.int .i64 ((Z r).getD c 0))) →
    ∃ (cs : List Value) (H' : AHeap) (μ' : PMap), cs.length = n ∧ ArgSt P W μ' H' ∧ Sub μ μ' ∧ Stay none H H' ∧ ∀ r, r < n → ∃ v, cs[r]? = some v ∧ VRel μ' v (.slice (A r) (L r) (C r)) ∧ Rd H' q 1 v (L r) (((Z r).take (L r)).map (Value.int .i64))
  | 0, μ, H, h, _ => ⟨[], H, μ, rfl, h, Sub.refl μ, Stay.refl _ _, fun r hr => by omega⟩
  | n + 1, μ, H, h, hr => by
    obtain ⟨cs, H1, μ1, k1, k2, k3, k4, k5⟩ := ArgSt.rows (q := q) A L C Z n h (fun r hh => hr r (by omega))
    obtain ⟨f1, f2, f3, f4⟩ := hr n (by omega)
    have hone : ∃ v H2 μ2, ArgSt P W μ2 H2 ∧ Sub μ1 μ2 ∧ Stay none H1 H2 ∧ VRel μ2 v (.slice (A n) (L n) (C n)) ∧ Rd H2 q 1 v (L n) (((Z n).take (L n)).map (Value.int .i64)) := by
      by_cases hC : C n = 0
      · have hL : L n = 0 := by omega
        rw [hC, hL]
        cases hA : A n with
        | none => exact ⟨.slice none 0 0, H1, μ1, k2, Sub.refl _, Stay.refl _ _, .base _ rfl, ⟨rfl, .inl ⟨rfl, .inl rfl⟩⟩⟩
        | some a => exact ⟨emptySlice, H1, μ1, k2, Sub.refl _, Stay.refl _ _, .empty a, ⟨rfl, .inl ⟨rfl, .inr rfl⟩⟩⟩
      · obtain ⟨a, ha⟩ : ∃ a, A n = some a := by
          cases hA : A n with
          | none => exact absurd (f3 hA) hC
          | some a => exact ⟨a, rfl⟩
        have f5 := f4 a ha
        have h0 := f5 0 (by omega)
        have e0 : a.add 0 = a := by unfold Addr.add; simp
        rw [e0] at h0
        rw [ha]
        obtain ⟨av, H2, μ2, q1, q2, q3, q4, q5⟩ := k2.sliceV (e := q) (x := a) (len := L n) (cap := C n) (((Z n).take (L n)).map (Value.int .i64)) (cell_here h0) (by simp; omega) (fun i w hw => by
          simp only [List.getElem?_map, Option.map_eq_some_iff] at hw
          obtain ⟨z, hz, rfl⟩ := hw
          have hil : i < L n := by
            have := (List.getElem?_eq_some_iff.1 hz).1
            simp at this; omega
          rw [List.getElem?_take_of_lt hil] at hz
          refine ⟨_, f5 i (by omega), ?_⟩
          rw [List.getD_eq_getElem?_getD, hz]
          exact .base _ rfl) f1
        exact ⟨av, H2, μ2, q1, q2, q5, q3, q4⟩
    obtain ⟨v, H2, μ2, p1, p2, p3, p4, p5⟩ := hone
    refine ⟨cs ++ [v], H2, μ2, by simp [k1], p1, k3.trans p2, k4.trans p3, fun r hh => ?_⟩
    rcases Nat.lt_succ_iff_lt_or_eq.1 hh with hlt | rfl
    · obtain ⟨u, u1, u2, u3⟩ := k5 r hlt
      exact ⟨u, by rw [List.getElem?_append_left (by omega)]; exact u1, u2.mono p2, u3.stay p3⟩
    · exact ⟨v, by rw [List.getElem?_append_right (by omega), k1]; simp, p4, p5⟩

theorem cell_form {P : Program} {w : World} {r : Reach} {base : Nat} {t e : TypeId} {v : Value} (ht : P.underlying t = some (.slice e)) (h : Cell.okWide P w r base t v) : ∃ a n c, v = .slice a n c := by
  unfold Cell.okWide at h
  rw [ht] at h
  unfold Cell.ok at h
  rw [ht] at h
  cases v with
  | slice a n c => exact ⟨a, n, c, rfl⟩
  | _ => exact absurd h (by simp)

theorem weightsAll_mem {A : Type} {P : Program} {e : TypeId} : ∀ (l : List (DataW A)) (d : DataW A), d ∈ l → ∀ n ∈ d.weights P e, n ∈ DataW.weightsAll P e l
  | [], d, hd, _, _ => by cases hd
  | x :: r, d, hd, n, hn => by
    unfold DataW.weightsAll
    rw [List.mem_append]
    rcases List.mem_cons.1 hd with rfl | hd
    · exact .inl hn
    · exact .inr (weightsAll_mem r d hd n hn)

/-- Lists of numbers in an argument, with what bounds their sizes. -/
theorem ArgSt.grid {P : Program} {W : World} {μ : PMap} {H : AHeap} (h : ArgSt P W μ H) {A : Type} {enc : TypeId × Value → A} {t e q : TypeId} {v : Value} {d : DataW A} {ps : List MemPlace} {base : Nat}
    (ht : P.underlying t = some (.slice e)) (he : P.underlying e = some (.slice q)) (hq : P.underlying q = some (.int .i64)) (ce : P.cellsOf e = 1) (cq : P.cellsOf q = 1)
    (hval : Value.okWide P W .any base t v) (hd : DataW.Trod enc P W 0 (fun _ => true) true t v d ps) :
    ∃ (G : List (List Int)) (av : Value) (H' : AHeap) (μ' : PMap), ArgSt P W μ' H' ∧ Sub μ μ' ∧ VRel μ' av v ∧ Stay none H H' ∧ (∃ cs, Rd H' e 1 av G.length cs ∧ ∀ (i : Nat) (l : List Int), G[i]? = some l → ∃ r, cs[i]? = some r ∧ Rd H' q 1 r l.length (l.map (Value.int .i64))) ∧
      (∀ M, (∀ n ∈ d.weights P t, n ≤ M) → G.length * P.bytesOf e ≤ M ∧ ∀ l ∈ G, l.length * P.bytesOf q ≤ M) := by
  obtain ⟨fuel, hd⟩ := hd
  have hcell : Cell.okWide P W .any base t v := by
    unfold Value.okWide at hval
    rw [ht] at hval
    exact hval
  rcases Go.Deep.open_int_rows ht he hq ce cq hd with ⟨hh, _⟩ | ⟨a, len, cap, Ar, L, C, Z, hh, _, hlc, _, hx, hrow⟩
  · have hv : v = .slice none 0 0 := by
      obtain ⟨x, n, c, rfl⟩ := cell_form ht hcell
      simpa [Value.cells] using hh
    subst hv
    exact ⟨[], .slice none 0 0, H, μ, h, Sub.refl μ, .base _ rfl, Stay.refl _ _, ⟨[], ⟨rfl, .inl ⟨rfl, .inl rfl⟩⟩, fun i l hl => by simp at hl⟩, fun M _ => ⟨by simp, by simp⟩⟩
  · have hv : v = .slice (some a) len cap := by
      obtain ⟨x, n, c, rfl⟩ := cell_form ht hcell
      simpa [Value.cells] using hh
    subst hv
    obtain ⟨g1, g2⟩ := cell_slice ht hcell
    obtain ⟨cs, H1, μ1, k1, k2, k3, k4, k5⟩ := ArgSt.rows (q := q) Ar L C Z len h (fun r hr => by
      obtain ⟨_, r2, _, r4, _, r6, r7⟩ := hrow r (by omega)
      exact ⟨r2, r4, r6, fun a' ha' => (r7 a' ha').2⟩)
    obtain ⟨av, H2, μ2, q1, q2, q3, q4, q5⟩ := k2.sliceV (e := e) (x := a) (len := len) (cap := cap) cs ⟨g1, g2⟩ k1 (fun i w hw => by
      have hi : i < len := by
        have := (List.getElem?_eq_some_iff.1 hw).1
        omega
      obtain ⟨u, u1, u2, _⟩ := k5 i hi
      rw [u1] at hw
      cases hw
      exact ⟨_, (hrow i (by omega)).1, u2⟩) hlc
    have hG : ((List.range len).map fun r => (Z r).take (L r)).length = len := by simp
    refine ⟨(List.range len).map fun r => (Z r).take (L r), av, H2, μ2, q1, k3.trans q2, q3, k4.trans q5, ⟨cs, by rw [hG]; exact q4, fun i l hl => ?_⟩, fun M hM => ?_⟩
    · rw [List.getElem?_map, Option.map_eq_some_iff] at hl
      obtain ⟨r, hr, rfl⟩ := hl
      have hi : i < len := by
        have := (List.getElem?_eq_some_iff.1 hr).1
        simpa using this
      rw [List.getElem?_range hi] at hr
      cases hr
      obtain ⟨u, u1, _, u3⟩ := k5 i hi
      obtain ⟨_, r2, _, r4, _⟩ := hrow i (by omega)
      refine ⟨u, u1, ?_⟩
      rw [show ((Z i).take (L i)).length = L i by simp; omega]
      exact u3.stay q5
    · simp only [Prod.mk.injEq] at hx
      rw [hx.1] at hM
      have e1 : ∀ n, n ∈ (DataW.slice ((List.range len).map fun r => Go.Deep.intRow (H := A) .i64 (Ar r) (L r) (Z r)) ((List.range (cap - len)).map fun j => Go.Deep.intRow .i64 (Ar (len + j)) (L (len + j)) (Z (len + j)))).weights P t ↔
          n = (len + (cap - len)) * P.bytesOf e ∨ n ∈ DataW.weightsAll P e ((List.range len).map fun r => Go.Deep.intRow (H := A) .i64 (Ar r) (L r) (Z r)) ∨ n ∈ DataW.weightsAll P e ((List.range (cap - len)).map fun j => Go.Deep.intRow (H := A) .i64 (Ar (len + j)) (L (len + j)) (Z (len + j))) := by
        intro n
        simp only [DataW.weights, ht, List.length_map, List.length_range, List.mem_cons, List.mem_append]
      refine ⟨?_, fun l hl => ?_⟩
      · have hm := hM _ ((e1 _).2 (.inl rfl))
        rw [hG]
        have := Nat.mul_le_mul_right (P.bytesOf e) (show len ≤ len + (cap - len) by omega)
        omega
      · obtain ⟨r, hr, rfl⟩ := List.mem_map.1 hl
        have hi : r < len := List.mem_range.1 hr
        obtain ⟨_, r2, _, r4, _, r6, _⟩ := hrow r (by omega)
        cases hA : Ar r with
        | none =>
          have : L r = 0 := by have := r6 hA; omega
          simp [this]
        | some a' =>
          have hm := hM (((Z r).take (L r)).length * P.bytesOf q + ((Z r).drop (L r)).length * P.bytesOf q) ((e1 _).2 (.inr (.inl (weightsAll_mem _ (Go.Deep.intRow .i64 (Ar r) (L r) (Z r)) (List.mem_map.2 ⟨r, hr, rfl⟩) _ (by
            rw [hA]
            simp [Go.Deep.intRow, DataW.weights, he, lits, Nat.add_mul])))))
          omega
end Go.Proofs.Ytkemihfaohkoeaa.Am
namespace Go.Proofs.Ytkemihfaohkoeaa.Am
open Go

/-- One cell of a row of one-cell elements is put. -/
theorem put_map {α : Type} (f : α → Value) (l : List α) {i : Nat} (hi : i < l.length) (c : α) : putList (l.map f) (i * 1 + 0) [f c] = (l.set i c).map f := by
  unfold putList
  rw [Nat.mul_one, Nat.add_zero]
  apply List.ext_getElem
  · simp; omega
  · intro j h1 h2
    simp only [List.getElem_map, List.getElem_set]
    rw [List.getElem_append]
    split
    · rename_i hj
      rw [List.getElem_append]
      split
      · rename_i hj2
        simp only [List.length_take, List.length_map] at hj2
        rw [if_neg (by omega)]
        simp
      · rename_i hj2
        simp only [List.length_append, List.length_take, List.length_map, List.length_cons, List.length_nil] at hj hj2
        rw [if_pos (by omega)]
        simp
    · rename_i hj
      simp only [List.length_append, List.length_take, List.length_map, List.length_cons, List.length_nil] at hj
      rw [if_neg (by omega)]
      simp only [List.getElem_drop, List.getElem_map, List.length_append, List.length_take, List.length_map, List.length_cons, List.length_nil]
      congr 2
      omega
theorem rep_map {α : Type} (f : α → Value) (a : α) : ∀ n, repCells [f a] n = (List.replicate n a).map f
  | 0 => rfl
  | n + 1 => by
    unfold repCells
    rw [rep_map f a n, List.replicate_succ]
    rfl

end Go.Proofs.Ytkemihfaohkoeaa.Am
namespace Go.Proofs.Ytkemihfaohkoeaa.Am
open Go

/-- The text of some byte codes. -/
def bstr (l : List Nat) : ByteArray := ⟨(l.map fun n => UInt8.ofNat n).toArray⟩
/-- A word, given by its letters. -/
def lw (w : List Nat) : ByteArray := bstr (w.map (97 + ·))
end Go.Proofs.Ytkemihfaohkoeaa.Am
namespace Go.Proofs.Ytkemihfaohkoeaa.Am
open Go
theorem putList_one (L : List Value) {i : Nat} (hi : i < L.length) (v : Value) : putList L (0 + i * 1) [v] = L.set i v := by
  unfold putList
  rw [Nat.mul_one, Nat.zero_add, List.set_eq_take_append_cons_drop, if_pos hi]
  simp
/-- An array in a variable: a part is read, is written; all of it. -/
theorem arr_get {H : AHeap} {p e n : Nat} {L : List Value} {md : OMode} (h : H[p]? = some (.cells L e n md)) (hl : L.length = n) {i : Nat} {v : Value} (hv : L[i]? = some v) : getCells H p n (0 + i * 1) 1 = some [v] := by
  have hi := (List.getElem?_eq_some_iff.1 hv).1
  unfold getCells
  rw [h]
  simp only
  rw [if_pos ⟨Nat.le_refl _, by omega, by omega⟩, Nat.mul_one, Nat.zero_add, List.drop_eq_getElem_cons hi]
  rw [List.getElem?_eq_getElem hi] at hv
  simp [Option.some.inj hv]
theorem arr_set {H : AHeap} {p e n prot : Nat} {L : List Value} (h : H[p]? = some (.cells L e n .var)) (hl : L.length = n) (hp : prot ≤ p) {i : Nat} (hi : i < n) {v : Value} (hv : isCell v = true) :
    setCells H prot p n (0 + i * 1) [v] = some (H.set p (.cells (L.set i v) e n .var)) := by
  unfold setCells
  rw [h]
  simp only
  rw [if_pos ⟨rfl, hp, by omega, by simp; omega, by simp [hv]⟩, putList_one L (by omega)]
theorem arr_all {H : AHeap} {p e n : Nat} {L : List Value} {md : OMode} (h : H[p]? = some (.cells L e n md)) (hl : L.length = n) : getCells H p n 0 n = some L := by
  unfold getCells
  rw [h]
  simp only
  rw [if_pos ⟨Nat.le_refl _, by omega, by omega⟩, List.drop_zero, List.take_of_length_le (by omega)]
theorem arr_put {H : AHeap} {p e n prot : Nat} {L L' : List Value} (h : H[p]? = some (.cells L e n .var)) (hl : L.length = n) (hp : prot ≤ p) (hl' : L'.length = n) (hv : L'.all isCell = true) :
    setCells H prot p n 0 L' = some (H.set p (.cells L' e n .var)) := by
  unfold setCells
  rw [h]
  simp only
  rw [if_pos ⟨rfl, hp, by omega, by omega, hv⟩]
  unfold putList
  rw [List.take_zero, List.nil_append, Nat.zero_add, List.drop_of_length_le (by omega), List.append_nil]
theorem set_stay {H : AHeap} {p : Nat} {o : AObj} : Stay (some p) H (H.set p o) := ⟨by simp, fun q _ hq => List.getElem?_set_ne (fun e => hq (by rw [e]))⟩
/-- A variable of an array's type is made. -/
theorem alloc_arr {P : Program} {t n : Nat} {z : Value} (hz : tzero P t = some (.agg ((List.replicate n z).toArray))) (hp : plain0 z = true) (H : AHeap) :
    aalloc P t H = some (.pointer (some ⟨H.length, 0, some n⟩), H ++ [.cells (List.replicate n z) t n .var]) := by
  unfold aalloc
  rw [hz, Option.bind_some]
  have e : cellsOf (.agg ((List.replicate n z).toArray)) = List.replicate n z := by simp [cellsOf, Value.cells]
  rw [e]
  rw [if_pos (by rw [List.all_eq_true]; intro x hx; rw [List.mem_replicate] at hx; rw [hx.2]; exact hp)]
  simp [ptrTo, newVarObj]
end Go.Proofs.Ytkemihfaohkoeaa.Am
namespace Go.Proofs.Ytkemihfaohkoeaa.Am
open Go
/-! Sets of numbers below 512, as eight words. -/
def natOf (f : Nat → Bool) : Nat → Nat
  | 0 => 0
  | n + 1 => natOf f n ||| (if f n then 2 ^ n else 0)
theorem natOf_lt (f : Nat → Bool) : ∀ n, natOf f n < 2 ^ n
  | 0 => by simp [natOf]
  | n + 1 => by
    rw [natOf]
    refine Nat.or_lt_two_pow (Nat.lt_of_lt_of_le (natOf_lt f n) (Nat.pow_le_pow_right (by omega) (by omega))) ?_
    split
    · exact Nat.pow_lt_pow_right (by omega) (by omega)
    · exact Nat.two_pow_pos _
theorem natOf_bit (f : Nat → Bool) (j : Nat) : ∀ n, (natOf f n).testBit j = (decide (j < n) && f j)
  | 0 => by simp [natOf]
  | n + 1 => by
    rw [natOf, Nat.testBit_or, natOf_bit f j n]
    by_cases h : j = n
    · subst h
      cases hf : f j <;> simp [hf, Nat.testBit_two_pow_self]
    · have e1 : decide (j < n + 1) = decide (j < n) := by rw [decide_eq_decide]; omega
      rw [e1]
      have e2 : (if f n = true then 2 ^ n else 0).testBit j = false := by
        split
        · rw [Nat.testBit_two_pow]; simpa using fun e => h e.symm
        · simp
      rw [e2, Bool.or_false]
def wordS (S : Nat → Bool) (w : Nat) : Nat := natOf (fun b => S (64 * w + b)) 64
def setL (S : Nat → Bool) : List Value := (List.range 8).map fun w => .int .u64 ((wordS S w : Nat) : Int)
def setA (S : Nat → Bool) : Array Value := ⟨setL S⟩
theorem setL_len (S : Nat → Bool) : (setL S).length = 8 := by simp [setL]
theorem setL_cell (S : Nat → Bool) : (setL S).all isCell = true := by simp [setL, isCell]
theorem setL_plain (S : Nat → Bool) : (setL S).all plain0 = true := by simp [setL, plain0]
theorem setA_plain (S : Nat → Bool) : plain1 (.agg (setA S)) = true := by
  show (setL S).all plain0 = true
  exact setL_plain S
theorem setL_get {S : Nat → Bool} {w : Nat} (h : w < 8) : (setL S)[w]? = some (.int .u64 ((wordS S w : Nat) : Int)) := by
  unfold setL
  rw [List.getElem?_map, List.getElem?_range h]; rfl
theorem wordS_lt (S : Nat → Bool) (w : Nat) : wordS S w < 18446744073709551616 := natOf_lt _ 64
/-- One number more. -/
def addS (S : Nat → Bool) (i : Nat) : Nat → Bool := fun j => S j || decide (j = i)
def noS : Nat → Bool := fun _ => false
theorem wordS_add {S : Nat → Bool} {i : Nat} : wordS (addS S i) (i / 64) = wordS S (i / 64) ||| 2 ^ (i % 64) := by
  apply Nat.eq_of_testBit_eq
  intro j
  unfold wordS
  rw [Nat.testBit_or, natOf_bit, natOf_bit, Nat.testBit_two_pow]
  unfold addS
  by_cases h : j < 64
  · rw [decide_eq_true h, Bool.true_and, Bool.true_and]
    congr 1
    rw [decide_eq_decide]
    omega
  · rw [decide_eq_false h, Bool.false_and, Bool.false_and, Bool.false_or]
    exact (decide_eq_false (by omega)).symm
theorem wordS_other {S : Nat → Bool} {i w : Nat} (h : w ≠ i / 64) : wordS (addS S i) w = wordS S w := by
  apply Nat.eq_of_testBit_eq
  intro j
  unfold wordS
  rw [natOf_bit, natOf_bit]
  by_cases hj : j < 64
  · unfold addS
    have : decide (64 * w + j = i) = false := decide_eq_false (by omega)
    rw [this, Bool.or_false]
  · rw [decide_eq_false hj, Bool.false_and, Bool.false_and]
theorem setL_add {S : Nat → Bool} {i : Nat} (_h : i < 512) : (setL S).set (i / 64) (.int .u64 ((wordS S (i / 64) ||| 2 ^ (i % 64) : Nat) : Int)) = setL (addS S i) := by
  apply List.ext_getElem?
  intro w
  by_cases hw : w < 8
  · rw [setL_get hw]
    by_cases h : w = i / 64
    · subst h
      rw [List.getElem?_set_self (by rw [setL_len]; exact hw), wordS_add]
    · rw [List.getElem?_set_ne (fun e => h e.symm), setL_get hw, wordS_other h]
  · rw [List.getElem?_eq_none (by rw [List.length_set, setL_len]; omega), List.getElem?_eq_none (by rw [setL_len]; omega)]
theorem setL_no : setL noS = List.replicate 8 (.int .u64 0) := by
  have : ∀ w, wordS noS w = 0 := fun w => by
    apply Nat.eq_of_testBit_eq
    intro j
    unfold wordS
    rw [natOf_bit]
    simp [noS]
  unfold setL
  simp only [this]
  rfl
theorem setL_congr {S T : Nat → Bool} (h : ∀ i, i < 512 → S i = T i) : setL S = setL T := by
  unfold setL
  refine List.map_congr_left fun w hw => ?_
  rw [List.mem_range] at hw
  have : wordS S w = wordS T w := by
    apply Nat.eq_of_testBit_eq
    intro j
    unfold wordS
    rw [natOf_bit, natOf_bit]
    by_cases hj : j < 64
    · rw [h (64 * w + j) (by omega)]
    · rw [decide_eq_false hj, Bool.false_and, Bool.false_and]
  rw [this]
theorem u64_wrapN (n : Nat) : IntKind.u64.wrap (n : Int) = ((n % 18446744073709551616 : Nat) : Int) := by
  simp only [IntKind.wrap]
  show (if (false && decide ((n : Int) % (18446744073709551616 : Int) ≥ (9223372036854775808 : Int))) = true then (n : Int) % (18446744073709551616 : Int) - 18446744073709551616 else (n : Int) % (18446744073709551616 : Int)) = _
  rw [if_neg (by simp)]
  omega
theorem ofInt_natU (n : Nat) (h : n < 18446744073709551616) : (BitVec.ofInt IntKind.u64.bits (n : Int)).toNat = n := by
  show (BitVec.ofInt 64 (n : Int)).toNat = n
  rw [BitVec.ofInt_natCast, BitVec.toNat_ofNat]
  exact Nat.mod_eq_of_lt h
theorem tdiv64 (i : Nat) : (i : Int).tdiv 64 = ((i / 64 : Nat) : Int) := by rw [show (64 : Int) = ((64 : Nat) : Int) from rfl, Int.ofNat_tdiv]
theorem tmod64 (i : Nat) : (i : Int).tmod 64 = ((i % 64 : Nat) : Int) := by rw [show (64 : Int) = ((64 : Nat) : Int) from rfl, Int.ofNat_tmod]
/-- A bit is set. -/
theorem bit_or {a i : Nat} (ha : a < 18446744073709551616) {m : Int} (hm : m = ((i % 64 : Nat) : Int)) :
    IntKind.u64.wrap (((BitVec.ofInt IntKind.u64.bits (a : Int) ||| BitVec.ofInt IntKind.u64.bits (IntKind.u64.wrap (1 * 2 ^ min m.toNat IntKind.u64.bits))).toNat : Nat) : Int) = ((a ||| 2 ^ (i % 64) : Nat) : Int) := by
  subst hm
  have hpow : 2 ^ (i % 64) < 18446744073709551616 := Nat.pow_lt_pow_of_lt (a := 2) (n := i % 64) (m := 64) (by omega) (by omega)
  have hb : min ((i % 64 : Nat) : Int).toNat IntKind.u64.bits = i % 64 := by
    rw [Int.toNat_natCast]
    show min (i % 64) 64 = i % 64
    omega
  have h1 : IntKind.u64.wrap (1 * 2 ^ min ((i % 64 : Nat) : Int).toNat IntKind.u64.bits) = ((2 ^ (i % 64) : Nat) : Int) := by
    rw [hb, Int.one_mul]
    have : ((2 : Int) ^ (i % 64)) = ((2 ^ (i % 64) : Nat) : Int) := by push_cast; rfl
    rw [this, u64_wrapN, Nat.mod_eq_of_lt hpow]
  rw [h1, BitVec.toNat_or, ofInt_natU _ ha, ofInt_natU _ hpow, u64_wrapN]
  have := Nat.or_lt_two_pow (n := 64) ha hpow
  rw [Nat.mod_eq_of_lt this]
/-- A bit is read. -/
theorem bit_and {a i : Nat} (ha : a < 18446744073709551616) {m : Int} (hm : m = ((i % 64 : Nat) : Int)) :
    IntKind.u64.wrap (((BitVec.ofInt IntKind.u64.bits ((a : Int).fdiv (2 ^ min m.toNat IntKind.u64.bits)) &&& BitVec.ofInt IntKind.u64.bits 1).toNat : Nat) : Int) = ((a / 2 ^ (i % 64) % 2 : Nat) : Int) := by
  subst hm
  have hb : min ((i % 64 : Nat) : Int).toNat IntKind.u64.bits = i % 64 := by
    rw [Int.toNat_natCast]
    show min (i % 64) 64 = i % 64
    omega
  rw [hb]
  have hf : ((a : Nat) : Int).fdiv (2 ^ (i % 64)) = ((a / 2 ^ (i % 64) : Nat) : Int) := by
    rw [Int.fdiv_eq_ediv_of_nonneg _ (by exact_mod_cast Nat.zero_le _)]
    push_cast
    rfl
  rw [hf]
  have hlt2 : a / 2 ^ (i % 64) < 18446744073709551616 := Nat.lt_of_le_of_lt (Nat.div_le_self _ _) ha
  have hand : (BitVec.ofInt IntKind.u64.bits ((a / 2 ^ (i % 64) : Nat) : Int) &&& BitVec.ofInt IntKind.u64.bits 1).toNat = a / 2 ^ (i % 64) % 2 := by
    rw [BitVec.toNat_and, ofInt_natU _ hlt2]
    have h1 : (BitVec.ofInt IntKind.u64.bits 1).toNat = 1 := by decide
    rw [h1, Nat.and_one_is_mod]
  rw [hand, u64_wrapN, Nat.mod_eq_of_lt (by omega)]
theorem wordS_bit {S : Nat → Bool} {i : Nat} : (wordS S (i / 64) / 2 ^ (i % 64) % 2 = 1) ↔ S i = true := by
  have h := Nat.testBit_eq_decide_div_mod_eq (x := wordS S (i / 64)) (i := i % 64)
  have h2 : (wordS S (i / 64)).testBit (i % 64) = S i := by
    unfold wordS
    rw [natOf_bit, decide_eq_true (Nat.mod_lt _ (by omega)), Bool.true_and]
    congr 1
    omega
  rw [h2] at h
  rw [h, decide_eq_true_eq]
end Go.Proofs.Ytkemihfaohkoeaa.Am
namespace Go.Proofs.Ytkemihfaohkoeaa.Am
open Go

end Go.Proofs.Ytkemihfaohkoeaa.Am
namespace Go.Proofs.Ytkemihfaohkoeaa.Am
open Go
theorem Rd.stayNe {H H' : AHeap} {e s : Nat} {x : Value} {n : Nat} {cs : List Value} (h : Rd H e s x n cs) {o : Option Nat} (k : Stay o H H') (hne : ∀ id off L n c, x = .slice (some ⟨id, off, some L⟩) n c → o ≠ some id) : Rd H' e s x n cs := by
  refine ⟨h.1, ?_⟩
  rcases h.2 with h2 | ⟨id, L, wr, md, c, all, h2, h3, h4, h5, h6, h7⟩
  · exact .inl h2
  · exact .inr ⟨id, L, wr, md, c, all, h2, h3, h4, h5, by rw [k.2 id (List.getElem?_eq_some_iff.1 h6).1 (hne _ _ _ _ _ h2)]; exact h6, h7⟩
end Go.Proofs.Ytkemihfaohkoeaa.Am
namespace Go.Proofs.Ytkemihfaohkoeaa.Am
open Go

/-- A list of one's own that grows and shrinks at its end: nil, or the beginning of a row. -/
def Stk (H : AHeap) (e : Nat) (x : Value) (o : Option Nat) (n : Nat) (cs : List Value) : Prop :=
  cs.length = n ∧
  match o with
  | none => n = 0 ∧ x = .slice none 0 0
  | some id => ∃ all wr, x = .slice (some ⟨id, 0, some all.length⟩) n all.length ∧ n ≤ all.length ∧ wr ≤ all.length ∧ 0 < all.length ∧ H[id]? = some (.cells all e wr .row) ∧ cs = all.take n

theorem Stk.rd {H : AHeap} {e : Nat} {x : Value} {o : Option Nat} {n : Nat} {cs : List Value} (h : Stk H e x o n cs) : Rd H e 1 x n cs := by
  obtain ⟨h1, h2⟩ := h
  refine ⟨by rw [h1, Nat.mul_one], ?_⟩
  cases o with
  | none => exact .inl ⟨h2.1, .inl h2.2⟩
  | some id =>
    obtain ⟨all, wr, rfl, hn, hwr, _, hH, rfl⟩ := h2
    exact .inr ⟨id, all.length, wr, .row, all.length, all, rfl, hwr, Nat.le_refl _, by omega, hH, by rw [Nat.mul_one]⟩
theorem Stk.len {H : AHeap} {e : Nat} {x : Value} {o : Option Nat} {n : Nat} {cs : List Value} (h : Stk H e x o n cs) : ∃ a c, x = .slice a n c := h.rd.len
theorem Stk.stay {H H' : AHeap} {e : Nat} {x : Value} {o o' : Option Nat} {n : Nat} {cs : List Value} (h : Stk H e x o n cs) (k : Stay o' H H') (hne : ∀ id, o = some id → o' ≠ some id) : Stk H' e x o n cs := by
  obtain ⟨h1, h2⟩ := h
  refine ⟨h1, ?_⟩
  cases o with
  | none => exact h2
  | some id =>
    obtain ⟨all, wr, a, b, c, d, f, g⟩ := h2
    exact ⟨all, wr, a, b, c, d, by rw [k.2 id (List.getElem?_eq_some_iff.1 f).1 (hne id rfl)]; exact f, g⟩
theorem Stk.lt {H : AHeap} {e : Nat} {x : Value} {id n : Nat} {cs : List Value} (h : Stk H e x (some id) n cs) : id < H.length := by
  obtain ⟨_, all, wr, _, _, _, _, hH, _⟩ := h
  exact (List.getElem?_eq_some_iff.1 hH).1
/-- A list of letters as a text. -/
def lcs (w : List Nat) : List Value := w.map fun c => .int .u8 ((97 + c : Nat) : Int)
end Go.Proofs.Ytkemihfaohkoeaa.Am
namespace Go.Proofs.Ytkemihfaohkoeaa.Am
open Go
abbrev vo (cs : List Value) (e : TypeId) : AObj := .cells cs e cs.length .var
abbrev wo (cs : List Value) (e : TypeId) : AObj := .cells cs e cs.length .row
theorem ai {a b : Prop} (h : a) (k : b) : a ∧ b := ⟨h, k⟩
theorem lp_of2 {C : Cfg} {fn : AFunc} {i prot : Nat} {H0 : AHeap} {s : LS} (hs : List Hint) {r : LS ⊕ LO} {c : Prop} (h : c) (e : c = plp C fn i prot H0 s hs r) : lpOf C fn i prot H0 s = some r := loop_of hs (e.mp h)
theorem fn_of2 {C : Cfg} {f : FuncId} (fn : AFunc) {args : List Value} {prot : Nat} {H : AHeap} (hs : List Hint) {v : Value} {H' : AHeap} {c : Prop} (h : c) (e : c = pcall C fn args prot H hs v H')
    (hf : C.code f = some fn) (hm : fn.memo = none := by rfl) : callInf C f args prot H = some (v, H') := call_of hf hm hs (e.mp h)
end Go.Proofs.Ytkemihfaohkoeaa.Am
set_option linter.unusedVariables false
open Go Go.Proofs.Ytkemihfaohkoeaa.Am
namespace Go.Proofs.Ytkemihfaohkoeaa.Am11
theorem f25_F_0 {x0a : Option Addr} {x0n x0c : Nat} {H : AHeap} {prot : Nat} (h1 : (↑x0n : Int) > 512) : callInf cfg 25 [.slice x0a x0n x0c] prot H = some (Value.int .i64 6, H) :=
  fn_of2 a25 [.e, .e, .b true] (ai (decide_eq_true h1) (Eq.refl ((Value.int .i64 6, H) : Value × AHeap))) (by kernel_rfl) rfl
theorem f25_F_1 {x0a : Option Addr} {x0n x0c : Nat} {H : AHeap} {prot : Nat} {z2 : Value} {H1 : AHeap} (h1 : ¬((↑x0n : Int) > 512)) (h2 : lpInf (lpOf cfg a25 0 prot H) ([Value.slice x0a x0n x0c, Value.slice x0a x0n x0c, Value.int .i64 (↑x0n : Int), Value.int .i64 0], H) = some (Ex.exit 0, [z2], H1)) : callInf cfg 25 [.slice x0a x0n x0c] prot H = some (Value.int .i64 0, H) :=
  fn_of2 a25 [.e, .e, .b false, .e, .lo (.exit 0, [z2], H1)] (ai (decide_eq_false h1) (ai h2 (Eq.refl ((Value.int .i64 0, H) : Value × AHeap)))) (by kernel_rfl) rfl
theorem f25_F_2 {x0a : Option Addr} {x0n x0c : Nat} {H : AHeap} {prot : Nat} {z2 : Int} {H1 : AHeap} (h1 : ¬((↑x0n : Int) > 512)) (h2 : lpInf (lpOf cfg a25 0 prot H) ([Value.slice x0a x0n x0c, Value.slice x0a x0n x0c, Value.int .i64 (↑x0n : Int), Value.int .i64 0], H) = some (Ex.ret, [Value.int .i64 z2], H1)) : callInf cfg 25 [.slice x0a x0n x0c] prot H = some (Value.int .i64 z2, H) :=
  fn_of2 a25 [.e, .e, .b false, .e, .lo (.ret, [.int .i64 z2], H1)] (ai (decide_eq_false h1) (ai h2 (Eq.refl ((Value.int .i64 z2, H) : Value × AHeap)))) (by kernel_rfl) rfl
theorem f25_L0_0 {x0a : Option Addr} {x0n x0c : Nat} {x10a : Option Addr} {x10n x10c : Nat} {x11 x12 : Int} {H0 : AHeap} {prot : Nat} {H : AHeap} {x14p x14o x14l : Nat} {x15a : Option Addr} {x15n x15c : Nat} {z0a : Option Addr} {z0n z0c : Nat} {z2 : Value} {z10a : Option Addr} {z10n z10c : Nat} {z11 z12 : Int} {H2 : AHeap} (h1 : x12 < x11) (h2 : aindexAddr cfg.P 22 (Value.slice x10a x10n x10c) (Value.int .i64 x12) = some (Value.pointer (some ⟨x14p, x14o, some x14l⟩))) (h3 : getCells H x14p x14l x14o 1 = some [Value.slice x15a x15n x15c]) (h4 : lpInf (lpOf cfg a25 1 prot H0) ([Value.slice x0a x0n x0c, Value.slice x10a x10n x10c, Value.int .i64 x11, Value.int .i64 x12, Value.slice x15a x15n x15c, Value.int .i64 (↑x15n : Int), Value.int .i64 0], H) = some (Ex.exit 2, [Value.slice z0a z0n z0c, z2, Value.slice z10a z10n z10c, Value.int .i64 z11, Value.int .i64 z12], H2)) (h5 : Fit .i64 (z12 + 1)) : lpOf cfg a25 0 prot H0 ([.slice x0a x0n x0c, .slice x10a x10n x10c, .int .i64 x11, .int .i64 x12], H) = some (Sum.inl ([Value.slice z0a z0n z0c, Value.slice z10a z10n z10c, Value.int .i64 z11, Value.int .i64 (z12 + 1)], H2)) :=
  lp_of2 [.e, .b true, .v (.pointer (some ⟨x14p, x14o, some x14l⟩)), .v (.slice x15a x15n x15c), .e, .lo (.exit 2, [.slice z0a z0n z0c, z2, .slice z10a z10n z10c, .int .i64 z11, .int .i64 z12], H2), .e] (ai (decide_eq_true h1) (ai h2 (ai h3 (ai h4 (ai h5 (Eq.refl (Sum.inl ([Value.slice z0a z0n z0c, Value.slice z10a z10n z10c, Value.int .i64 z11, Value.int .i64 (z12 + 1)], H2) : LS ⊕ LO))))))) (by kernel_rfl)
theorem f25_L0_1 {x0a : Option Addr} {x0n x0c : Nat} {x10a : Option Addr} {x10n x10c : Nat} {x11 x12 : Int} {H0 : AHeap} {prot : Nat} {H : AHeap} {x14p x14o x14l : Nat} {x15a : Option Addr} {x15n x15c : Nat} {z0 : Value} {z2 : Int} {z10 z11 z12 : Value} {H2 : AHeap} (h1 : x12 < x11) (h2 : aindexAddr cfg.P 22 (Value.slice x10a x10n x10c) (Value.int .i64 x12) = some (Value.pointer (some ⟨x14p, x14o, some x14l⟩))) (h3 : getCells H x14p x14l x14o 1 = some [Value.slice x15a x15n x15c]) (h4 : lpInf (lpOf cfg a25 1 prot H0) ([Value.slice x0a x0n x0c, Value.slice x10a x10n x10c, Value.int .i64 x11, Value.int .i64 x12, Value.slice x15a x15n x15c, Value.int .i64 (↑x15n : Int), Value.int .i64 0], H) = some (Ex.ret, [z0, Value.int .i64 z2, z10, z11, z12], H2)) : lpOf cfg a25 0 prot H0 ([.slice x0a x0n x0c, .slice x10a x10n x10c, .int .i64 x11, .int .i64 x12], H) = some (Sum.inr (Ex.ret, [Value.int .i64 z2], H2)) :=
  lp_of2 [.e, .b true, .v (.pointer (some ⟨x14p, x14o, some x14l⟩)), .v (.slice x15a x15n x15c), .e, .lo (.ret, [z0, .int .i64 z2, z10, z11, z12], H2)] (ai (decide_eq_true h1) (ai h2 (ai h3 (ai h4 (Eq.refl (Sum.inr (Ex.ret, [Value.int .i64 z2], H2) : LS ⊕ LO)))))) (by kernel_rfl)
theorem f25_L0_2 {x0a : Option Addr} {x0n x0c : Nat} {x10a : Option Addr} {x10n x10c : Nat} {x11 x12 : Int} {H0 : AHeap} {prot : Nat} {H : AHeap} (h1 : ¬(x12 < x11)) : lpOf cfg a25 0 prot H0 ([.slice x0a x0n x0c, .slice x10a x10n x10c, .int .i64 x11, .int .i64 x12], H) = some (Sum.inr (Ex.exit 0, [Value.tuple { toList := [] }], H)) :=
  lp_of2 [.e, .b false] (ai (decide_eq_false h1) (Eq.refl (Sum.inr (Ex.exit 0, [Value.tuple { toList := [] }], H) : LS ⊕ LO))) (by kernel_rfl)
theorem f25_L1_0 {x0a : Option Addr} {x0n x0c : Nat} {x10a : Option Addr} {x10n x10c : Nat} {x11 x12 : Int} {x16a : Option Addr} {x16n x16c : Nat} {x17 x18 : Int} {H0 : AHeap} {prot : Nat} {H : AHeap} {x20p x20o x20l : Nat} {x21 : Int} (h1 : x18 < x17) (h2 : aindexAddr cfg.P 34 (Value.slice x16a x16n x16c) (Value.int .i64 x18) = some (Value.pointer (some ⟨x20p, x20o, some x20l⟩))) (h3 : getCells H x20p x20l x20o 1 = some [Value.int .i64 x21]) (h4 : x21 < 0) : lpOf cfg a25 1 prot H0 ([.slice x0a x0n x0c, .slice x10a x10n x10c, .int .i64 x11, .int .i64 x12, .slice x16a x16n x16c, .int .i64 x17, .int .i64 x18], H) = some (Sum.inr (Ex.ret, [Value.slice x0a x0n x0c, Value.int .i64 11, Value.slice x10a x10n x10c, Value.int .i64 x11, Value.int .i64 x12], H)) :=
  lp_of2 [.e, .b true, .v (.pointer (some ⟨x20p, x20o, some x20l⟩)), .v (.int .i64 x21), .e, .b true, .b true, .b true, .b true, .b true, .b true] (ai (decide_eq_true h1) (ai h2 (ai h3 (ai (decide_eq_true h4) (ai (decide_eq_true h4) (ai (decide_eq_true h4) (ai (decide_eq_true h4) (ai (decide_eq_true h4) (ai (Eq.refl true) (Eq.refl (Sum.inr (Ex.ret, [Value.slice x0a x0n x0c, Value.int .i64 11, Value.slice x10a x10n x10c, Value.int .i64 x11, Value.int .i64 x12], H) : LS ⊕ LO))))))))))) (by kernel_rfl)
theorem f25_L1_1 {x0a : Option Addr} {x0n x0c : Nat} {x10a : Option Addr} {x10n x10c : Nat} {x11 x12 : Int} {x16a : Option Addr} {x16n x16c : Nat} {x17 x18 : Int} {H0 : AHeap} {prot : Nat} {H : AHeap} {x20p x20o x20l : Nat} {x21 : Int} (h1 : x18 < x17) (h2 : aindexAddr cfg.P 34 (Value.slice x16a x16n x16c) (Value.int .i64 x18) = some (Value.pointer (some ⟨x20p, x20o, some x20l⟩))) (h3 : getCells H x20p x20l x20o 1 = some [Value.int .i64 x21]) (h4 : ¬(x21 < 0)) (h5 : x21 ≥ (↑x0n : Int)) : lpOf cfg a25 1 prot H0 ([.slice x0a x0n x0c, .slice x10a x10n x10c, .int .i64 x11, .int .i64 x12, .slice x16a x16n x16c, .int .i64 x17, .int .i64 x18], H) = some (Sum.inr (Ex.ret, [Value.slice x0a x0n x0c, Value.int .i64 11, Value.slice x10a x10n x10c, Value.int .i64 x11, Value.int .i64 x12], H)) :=
  lp_of2 [.e, .b true, .v (.pointer (some ⟨x20p, x20o, some x20l⟩)), .v (.int .i64 x21), .e, .b false, .b false, .b false, .e, .b false, .e, .b false, .b true] (ai (decide_eq_true h1) (ai h2 (ai h3 (ai (decide_eq_false h4) (ai (decide_eq_false h4) (ai (decide_eq_false h4) (ai (decide_eq_false h4) (ai (decide_eq_false h4) (ai (decide_eq_true h5) (Eq.refl (Sum.inr (Ex.ret, [Value.slice x0a x0n x0c, Value.int .i64 11, Value.slice x10a x10n x10c, Value.int .i64 x11, Value.int .i64 x12], H) : LS ⊕ LO))))))))))) (by kernel_rfl)
theorem f25_L1_2 {x0a : Option Addr} {x0n x0c : Nat} {x10a : Option Addr} {x10n x10c : Nat} {x11 x12 : Int} {x16a : Option Addr} {x16n x16c : Nat} {x17 x18 : Int} {H0 : AHeap} {prot : Nat} {H : AHeap} {x20p x20o x20l : Nat} {x21 : Int} (h1 : x18 < x17) (h2 : aindexAddr cfg.P 34 (Value.slice x16a x16n x16c) (Value.int .i64 x18) = some (Value.pointer (some ⟨x20p, x20o, some x20l⟩))) (h3 : getCells H x20p x20l x20o 1 = some [Value.int .i64 x21]) (h4 : ¬(x21 < 0)) (h5 : ¬(x21 ≥ (↑x0n : Int))) (h6 : Fit .i64 (x18 + 1)) : lpOf cfg a25 1 prot H0 ([.slice x0a x0n x0c, .slice x10a x10n x10c, .int .i64 x11, .int .i64 x12, .slice x16a x16n x16c, .int .i64 x17, .int .i64 x18], H) = some (Sum.inl ([Value.slice x0a x0n x0c, Value.slice x10a x10n x10c, Value.int .i64 x11, Value.int .i64 x12, Value.slice x16a x16n x16c, Value.int .i64 x17, Value.int .i64 (x18 + 1)], H)) :=
  lp_of2 [.e, .b true, .v (.pointer (some ⟨x20p, x20o, some x20l⟩)), .v (.int .i64 x21), .e, .b false, .b false, .b false, .e, .b false, .e, .b false, .b false, .e] (ai (decide_eq_true h1) (ai h2 (ai h3 (ai (decide_eq_false h4) (ai (decide_eq_false h4) (ai (decide_eq_false h4) (ai (decide_eq_false h4) (ai (decide_eq_false h4) (ai (decide_eq_false h5) (ai h6 (Eq.refl (Sum.inl ([Value.slice x0a x0n x0c, Value.slice x10a x10n x10c, Value.int .i64 x11, Value.int .i64 x12, Value.slice x16a x16n x16c, Value.int .i64 x17, Value.int .i64 (x18 + 1)], H) : LS ⊕ LO)))))))))))) (by kernel_rfl)
theorem f25_L1_3 {x0a : Option Addr} {x0n x0c : Nat} {x10a : Option Addr} {x10n x10c : Nat} {x11 x12 : Int} {x16a : Option Addr} {x16n x16c : Nat} {x17 x18 : Int} {H0 : AHeap} {prot : Nat} {H : AHeap} (h1 : ¬(x18 < x17)) : lpOf cfg a25 1 prot H0 ([.slice x0a x0n x0c, .slice x10a x10n x10c, .int .i64 x11, .int .i64 x12, .slice x16a x16n x16c, .int .i64 x17, .int .i64 x18], H) = some (Sum.inr (Ex.exit 2, [Value.slice x0a x0n x0c, Value.tuple { toList := [] }, Value.slice x10a x10n x10c, Value.int .i64 x11, Value.int .i64 x12], H)) :=
  lp_of2 [.e, .b false] (ai (decide_eq_false h1) (Eq.refl (Sum.inr (Ex.exit 2, [Value.slice x0a x0n x0c, Value.tuple { toList := [] }, Value.slice x10a x10n x10c, Value.int .i64 x11, Value.int .i64 x12], H) : LS ⊕ LO))) (by kernel_rfl)
end Go.Proofs.Ytkemihfaohkoeaa.Am11
set_option linter.unusedVariables false
open Go Go.Proofs.Ytkemihfaohkoeaa.Am
namespace Go.Proofs.Ytkemihfaohkoeaa.Am11
end Go.Proofs.Ytkemihfaohkoeaa.Am11
namespace Go.Proofs.Ytkemihfaohkoeaa.Am11
open Go Go.Proofs.Ytkemihfaohkoeaa.Am
theorem T22 : ElemT cfg.P 22 34 1 24 := ⟨by kernel_rfl, by kernel_rfl, by kernel_rfl, ⟨.slice none 0 0, by kernel_rfl, rfl⟩, by kernel_rfl, by omega, by omega⟩
theorem T34 : ElemT cfg.P 34 3 1 8 := ⟨by kernel_rfl, by kernel_rfl, by kernel_rfl, ⟨.int .i64 0, by kernel_rfl, rfl⟩, by kernel_rfl, by omega, by omega⟩
def il (l : List Int) : List Value := l.map (.int .i64)
theorem il_get {l : List Int} {i : Nat} (h : i < l.length) : (il l)[i]? = some (.int .i64 l[i]) := by simp [il, h]
theorem il_plain (l) : (il l).all plain0 = true := by simp [il, plain0]
/-- A graph that may be read. -/
def Gr (H : AHeap) (v : Value) (G : List (List Int)) : Prop := ∃ cs, Rd H 34 1 v G.length cs ∧ ∀ (i : Nat) (l : List Int), G[i]? = some l → ∃ r, cs[i]? = some r ∧ Rd H 3 1 r l.length (il l)
theorem Gr.stay {H H' : AHeap} {v : Value} {G : List (List Int)} (h : Gr H v G) (s : Stay none H H') : Gr H' v G := by
  obtain ⟨cs, h1, h2⟩ := h
  exact ⟨cs, h1.stay s, fun i l hl => by obtain ⟨r, a, b⟩ := h2 i l hl; exact ⟨r, a, b.stay s⟩⟩
theorem Gr.len {H : AHeap} {v : Value} {G : List (List Int)} (h : Gr H v G) : ∃ a c, v = .slice a G.length c := by
  obtain ⟨cs, h1, _⟩ := h
  exact h1.len
theorem Gr.row {H : AHeap} {v : Value} {G : List (List Int)} (h : Gr H v G) {i : Nat} (hi : i < G.length) :
    ∃ id L r, aindexAddr cfg.P 22 v (.int .i64 i) = some (.pointer (some ⟨id, i, some L⟩)) ∧ getCells H id L i 1 = some [r] ∧ Rd H 3 1 r G[i].length (il G[i]) := by
  obtain ⟨cs, h1, h2⟩ := h
  obtain ⟨r, a, b⟩ := h2 i G[i] (List.getElem?_eq_getElem hi)
  obtain ⟨id, L, p, q⟩ := rd_at T22 h1 a
  exact ⟨id, L, r, p, q, b⟩
/-- Lists are not too long. -/
def Short (G : List (List Int)) : Prop := ∀ l ∈ G, l.length ≤ 140737488355328
def bad (n : Nat) (l : List Int) : Bool := l.any fun x => decide (x < 0 ∨ (n : Int) ≤ x)
/-- What Check answers. -/
def chk (G : List (List Int)) : Int := if 512 < G.length then 6 else if G.any (bad G.length) then 11 else 0

theorem loop25i {G : List (List Int)} {x y r : Value} {m j : Int} {H0 H : AHeap} {prot : Nat} {l : List Int} (hl : l.length ≤ 140737488355328) (hx : ∃ a c, x = .slice a G.length c) (hy : ∃ a n c, y = .slice a n c) (hr : Rd H 3 1 r l.length (il l)) : ∀ (d i : Nat), i + d = l.length →
    lpInf (lpOf cfg a25 1 prot H0) ([x, y, .int .i64 m, .int .i64 j, r, .int .i64 l.length, .int .i64 i], H) =
      some (if bad G.length (l.drop i) then (.ret, [x, .int .i64 11, y, .int .i64 m, .int .i64 j], H) else (.exit 2, [x, .tuple #[], y, .int .i64 m, .int .i64 j], H))
  | 0, i, hi => by
    rw [List.drop_of_length_le (by omega)]
    obtain ⟨_, _, rfl⟩ := hx
    obtain ⟨_, _, _, rfl⟩ := hy
    obtain ⟨_, _, rfl⟩ := hr.len
    exact lp_last (f25_L1_3 (by omega))
  | d + 1, i, hi => by
    have hil : i < l.length := by omega
    obtain ⟨id, L, p, q⟩ := rd_at T34 hr (il_get hil)
    have ih := loop25i hl hx hy hr (m := m) (j := j) (H0 := H0) (prot := prot) d (i + 1) (by omega)
    rw [List.drop_eq_getElem_cons hil]
    unfold bad at ih ⊢
    rw [List.any_cons]
    obtain ⟨_, _, rfl⟩ := hx
    obtain ⟨_, _, _, rfl⟩ := hy
    obtain ⟨_, _, rfl⟩ := hr.len
    by_cases h1 : l[i] < 0
    · rw [decide_eq_true (.inl h1), Bool.true_or, if_pos rfl]
      exact lp_last (f25_L1_0 (by omega) p q h1)
    · by_cases h2 : (G.length : Int) ≤ l[i]
      · rw [decide_eq_true (.inr h2), Bool.true_or, if_pos rfl]
        exact lp_last (f25_L1_1 (by omega) p q h1 (by omega))
      · rw [decide_eq_false (by omega), Bool.false_or]
        exact lp_next (f25_L1_2 (by omega) p q h1 (by omega) (fit64 (by omega) (by omega))) ih
theorem loop25o {G : List (List Int)} (hs : Short G) (hn : G.length ≤ 512) {x : Value} {H0 H : AHeap} {prot : Nat} (hx : Gr H x G) : ∀ (d i : Nat), i + d = G.length →
    ∃ e vs, lpInf (lpOf cfg a25 0 prot H0) ([x, x, .int .i64 G.length, .int .i64 i], H) = some (e, vs, H) ∧ ((e = .exit 0 ∧ vs = [.tuple #[]] ∧ (G.drop i).any (bad G.length) = false) ∨ (e = .ret ∧ vs = [.int .i64 11] ∧ (G.drop i).any (bad G.length) = true))
  | 0, i, hi => by
    rw [List.drop_of_length_le (by omega)]
    obtain ⟨_, _, rfl⟩ := hx.len
    exact ⟨_, _, lp_last (f25_L0_2 (by omega)), .inl ⟨rfl, rfl, rfl⟩⟩
  | d + 1, i, hi => by
    have hil : i < G.length := by omega
    obtain ⟨id, L, r, p, q, hr⟩ := hx.row hil
    obtain ⟨e, vs, z1, z2⟩ := loop25o hs hn hx (H0 := H0) (prot := prot) d (i + 1) (by omega)
    have hlp := loop25i (G := G) (hs _ (List.getElem_mem hil)) hx.len (by obtain ⟨a, c, h⟩ := hx.len; exact ⟨a, _, c, h⟩) hr (m := (G.length : Int)) (j := (i : Int)) (H0 := H0) (prot := prot) (G[i]).length 0 (by omega)
    rw [List.drop_zero] at hlp
    rw [List.drop_eq_getElem_cons hil, List.any_cons]
    obtain ⟨_, _, rfl⟩ := hx.len
    obtain ⟨_, _, rfl⟩ := hr.len
    cases hb : bad G.length G[i] with
    | true =>
      rw [hb, if_pos rfl] at hlp
      exact ⟨_, _, lp_last (f25_L0_1 (by omega) p q hlp), .inr ⟨rfl, rfl, rfl⟩⟩
    | false =>
      rw [hb, if_neg (by simp)] at hlp
      exact ⟨e, vs, lp_next (f25_L0_0 (by omega) p q hlp (fit64 (by omega) (by omega))) z1, z2⟩
theorem c25 {G : List (List Int)} (hs : Short G) {x : Value} (prot : Nat) {H : AHeap} (hx : Gr H x G) : callInf cfg 25 [x] prot H = some (.int .i64 (chk G), H) := by
  obtain ⟨a, c, hxe⟩ := hx.len
  unfold chk
  by_cases h : 512 < G.length
  · rw [if_pos h]
    subst hxe
    exact f25_F_0 (by omega)
  · rw [if_neg h]
    obtain ⟨e, vs, z1, z2⟩ := loop25o hs (by omega) hx (H0 := H) (prot := prot) G.length 0 (by omega)
    rw [List.drop_zero] at z2
    subst hxe
    rcases z2 with ⟨rfl, rfl, h3⟩ | ⟨rfl, rfl, h3⟩
    · rw [h3, if_neg (by simp)]
      exact f25_F_1 (by omega) z1
    · rw [h3, if_pos rfl]
      exact f25_F_2 (by omega) z1
/-- A good graph: its edges lead to its vertices. -/
def Good (G : List (List Int)) : Prop := G.length ≤ 512 ∧ Short G ∧ ∀ (i : Nat) (l : List Int) (x : Int), G[i]? = some l → x ∈ l → 0 ≤ x ∧ x < G.length
theorem good_of {G : List (List Int)} (hs : Short G) (h : chk G = 0) : Good G := by
  unfold chk at h
  split at h
  · cases h
  · split at h
    · cases h
    · rename_i h1 h2
      refine ⟨by omega, hs, fun i l x hl hx => ?_⟩
      have h3 : G.any (bad G.length) = false := by simpa using h2
      rw [List.any_eq_false] at h3
      have h4 := h3 l (List.mem_of_getElem? hl)
      have h5 : bad G.length l = false := by simpa using h4
      unfold bad at h5
      rw [List.any_eq_false] at h5
      have h6 := h5 x hx
      simp at h6
      omega
end Go.Proofs.Ytkemihfaohkoeaa.Am11
namespace Go.Proofs.Ytkemihfaohkoeaa.Am11
/-! Ways in a graph; what is marked depth first. -/
def sc (G : List (List Int)) (v : Nat) : List Nat := (G.getD v []).map Int.toNat
/-- A way that is not empty. -/
inductive Rch (G : List (List Int)) : Nat → Nat → Prop
  | one {v u : Nat} : u ∈ sc G v → Rch G v u
  | step {v w u : Nat} : Rch G v w → u ∈ sc G w → Rch G v u
theorem Rch.trans {G : List (List Int)} {a b c : Nat} (h : Rch G a b) (k : Rch G b c) : Rch G a c := by
  induction k with
  | one e => exact .step h e
  | step _ e ih => exact .step ih e
def at_ (M : List Bool) (u : Nat) : Bool := M.getD u false
theorem at_set {M : List Bool} {u x : Nat} (hu : u < M.length) : at_ (M.set u true) x = (decide (x = u) || at_ M x) := by
  unfold at_
  by_cases h : x = u
  · subst h; simp [List.getD_eq_getElem?_getD, hu]
  · rw [List.getD_eq_getElem?_getD, List.getElem?_set_ne (fun e => h e.symm), ← List.getD_eq_getElem?_getD]; simp [h]
def unm (M : List Bool) : Nat := M.countP (!·)
theorem unm_set : ∀ (m : List Bool) (t : Nat), t < m.length → at_ m t = false → unm (m.set t true) + 1 = unm m
  | [], t, h, _ => by simp at h
  | b :: m, 0, _, hb => by
    have : b = false := by simpa [at_] using hb
    subst this
    simp [unm]
  | b :: m, t + 1, h, hb => by
    have ih := unm_set m t (by simpa using h) (by simpa [at_] using hb)
    unfold unm at ih ⊢
    rw [List.set_cons_succ, List.countP_cons, List.countP_cons]
    omega
theorem unm_mono : ∀ {a b : List Bool}, a.length = b.length → (∀ x, at_ a x = true → at_ b x = true) → unm b ≤ unm a
  | [], [], _, _ => Nat.le_refl _
  | x :: a, y :: b, hl, h => by
    have ih := unm_mono (a := a) (b := b) (by simpa using hl) (fun i hi => by have := h (i + 1) (by simpa [at_] using hi); simpa [at_] using this)
    have h0 := h 0
    unfold unm at ih ⊢
    rw [List.countP_cons, List.countP_cons]
    cases x <;> cases y <;> simp [at_] at h0 ⊢ <;> omega
  | [], _ :: _, hl, _ => by simp at hl
  | _ :: _, [], hl, _ => by simp at hl
/-- What a walk from a vertex has done, of which the first i neighbours are through. -/
structure Post (G : List (List Int)) (M : List Bool) (v i : Nat) (M' : List Bool) : Prop where
  len : M'.length = M.length
  mono : ∀ x, at_ M x = true → at_ M' x = true
  sound : ∀ x, at_ M' x = true → at_ M x = true ∨ Rch G v x
  nb : ∀ j u, j < i → (sc G v)[j]? = some u → at_ M' u = true
  closed : ∀ x, at_ M' x = true → at_ M x = false → ∀ w ∈ sc G x, at_ M' w = true
theorem Post.start (G : List (List Int)) (M : List Bool) (v : Nat) : Post G M v 0 M := ⟨rfl, fun _ h => h, fun _ h => .inl h, fun _ _ h => by omega, fun x h1 h2 => by rw [h1] at h2; cases h2⟩
theorem Post.skip {G : List (List Int)} {M M1 : List Bool} {v i u : Nat} (h : Post G M v i M1) (hu : (sc G v)[i]? = some u) (hm : at_ M1 u = true) : Post G M v (i + 1) M1 :=
  ⟨h.len, h.mono, h.sound, fun j w hj hw => by
    by_cases e : j = i
    · subst e; rw [hu] at hw; cases hw; exact hm
    · exact h.nb j w (by omega) hw, h.closed⟩
theorem Post.down {G : List (List Int)} {M M1 M2 : List Bool} {v i u : Nat} (h : Post G M v i M1) (hu : (sc G v)[i]? = some u) (hul : u < M1.length) (k : Post G (M1.set u true) u (sc G u).length M2) : Post G M v (i + 1) M2 := by
  have hset := fun x => at_set (M := M1) (u := u) (x := x) hul
  have hmem : u ∈ sc G v := List.mem_of_getElem? hu
  have hu2 : at_ M2 u = true := k.mono u (by rw [hset]; simp)
  have up : ∀ x, at_ M1 x = true → at_ M2 x = true := fun x hx => k.mono x (by rw [hset, hx, Bool.or_true])
  refine ⟨by rw [k.len, List.length_set]; exact h.len, fun x hx => up x (h.mono x hx), fun x hx => ?_, fun j w hj hw => ?_, fun x hx hn w hw => ?_⟩
  · rcases k.sound x hx with h1 | h1
    · rw [hset, Bool.or_eq_true, decide_eq_true_eq] at h1
      rcases h1 with rfl | h1
      · exact .inr (.one hmem)
      · exact h.sound x h1
    · exact .inr ((Rch.one hmem).trans h1)
  · by_cases e : j = i
    · subst e; rw [hu] at hw; cases hw; exact hu2
    · exact up w (h.nb j w (by omega) hw)
  · by_cases h1 : at_ M1 x = true
    · exact up w (h.closed x h1 hn w hw)
    · by_cases e : x = u
      · subst e
        obtain ⟨j, hj, rfl⟩ := List.getElem_of_mem hw
        exact k.nb j _ hj (List.getElem?_eq_getElem hj)
      · exact k.closed x hx (by rw [hset]; simp [e, h1]) w hw
/-- From nothing: just what is reached. -/
theorem Post.all {G : List (List Int)} {n v : Nat} {M : List Bool} (h : Post G (List.replicate n false) v (sc G v).length M) (x : Nat) : at_ M x = true ↔ Rch G v x := by
  have hz : ∀ x, at_ (List.replicate n false) x = false := fun x => by
    unfold at_
    rw [List.getD_eq_getElem?_getD, List.getElem?_replicate]
    split <;> rfl
  constructor
  · intro hx
    rcases h.sound x hx with h1 | h1
    · rw [hz] at h1; cases h1
    · exact h1
  · intro hr
    induction hr with
    | one e =>
      obtain ⟨j, hj, rfl⟩ := List.getElem_of_mem e
      exact h.nb j _ hj (List.getElem?_eq_getElem hj)
    | step _ e ih => exact h.closed _ ih (hz _) _ e
end Go.Proofs.Ytkemihfaohkoeaa.Am11
set_option linter.unusedVariables false
open Go Go.Proofs.Ytkemihfaohkoeaa.Am
namespace Go.Proofs.Ytkemihfaohkoeaa.Am11
theorem f39_F_0 {x0a : Option Addr} {x0n x0c : Nat} {x1 : Int} {H : AHeap} {prot : Nat} {x7 : Array Value} {H1 H2 : AHeap} {x10ap x10ao x10al x10bp x10bo x10bl x10cp x10co x10cl : Nat} {H3 : AHeap} {x13p x13o x13l : Nat} (h1 : [Value.slice x0a x0n x0c].all isCell = true) (h2 : abuild cfg.P 77 [] = some (Value.agg x7)) (h3 : x7.toList.all isCell = true) (h4 : [Value.pointer (some ⟨List.length (H ++ [vo [Value.slice x0a x0n x0c] 22]), 0, some x7.toList.length⟩)].length = 1) (h5 : setCells (H ++ [vo [Value.slice x0a x0n x0c] 22] ++ [AObj.cells x7.toList 77 x7.toList.length OMode.var] ++ [vo [Value.pointer none] 68]) (List.length H) (List.length (H ++ [vo [Value.slice x0a x0n x0c] 22] ++ [AObj.cells x7.toList 77 x7.toList.length OMode.var])) [Value.pointer none].length 0 [Value.pointer (some ⟨List.length (H ++ [vo [Value.slice x0a x0n x0c] 22]), 0, some x7.toList.length⟩)] = some H1) (h6 : [Value.func (Fn.func 47) { toList := [] } { toList := [Value.pointer (some ⟨List.length H, 0, some [Value.slice x0a x0n x0c].length⟩), Value.pointer (some ⟨List.length (H ++ [vo [Value.slice x0a x0n x0c] 22] ++ [AObj.cells x7.toList 77 x7.toList.length OMode.var]), 0, some [Value.pointer none].length⟩), Value.pointer (some ⟨List.length H1, 0, some [Value.nilFunc].length⟩)] }].length = 1) (h7 : setCells (H1 ++ [vo [Value.nilFunc] 78]) (List.length H) (List.length H1) [Value.nilFunc].length 0 [Value.func (Fn.func 47) { toList := [] } { toList := [Value.pointer (some ⟨List.length H, 0, some [Value.slice x0a x0n x0c].length⟩), Value.pointer (some ⟨List.length (H ++ [vo [Value.slice x0a x0n x0c] 22] ++ [AObj.cells x7.toList 77 x7.toList.length OMode.var]), 0, some [Value.pointer none].length⟩), Value.pointer (some ⟨List.length H1, 0, some [Value.nilFunc].length⟩)] }] = some H2) (h8 : getCells H2 (List.length H1) [Value.nilFunc].length 0 1 = some [Value.func (Fn.func 47) { toList := [] } { toList := [Value.pointer (some ⟨x10ap, x10ao, some x10al⟩), Value.pointer (some ⟨x10bp, x10bo, some x10bl⟩), Value.pointer (some ⟨x10cp, x10co, some x10cl⟩)] }]) (h9 : callInf cfg 47 [Value.int .i64 x1, Value.pointer (some ⟨x10ap, x10ao, some x10al⟩), Value.pointer (some ⟨x10bp, x10bo, some x10bl⟩), Value.pointer (some ⟨x10cp, x10co, some x10cl⟩)] (List.length H) H2 = some (Value.tuple { toList := [] }, H3)) (h10 : getCells H3 (List.length (H ++ [vo [Value.slice x0a x0n x0c] 22] ++ [AObj.cells x7.toList 77 x7.toList.length OMode.var])) [Value.pointer none].length 0 1 = some [Value.pointer (some ⟨x13p, x13o, some x13l⟩)]) : callInf cfg 39 [.slice x0a x0n x0c, .int .i64 x1] prot H = some (Value.pointer (some ⟨x13p, x13o, some x13l⟩), H3) :=
  fn_of2 a39 [.e, .v (.agg x7), .e, .e, .h H1, .e, .h H2, .v (.func (.func 47) #[] #[.pointer (some ⟨x10ap, x10ao, some x10al⟩), .pointer (some ⟨x10bp, x10bo, some x10bl⟩), .pointer (some ⟨x10cp, x10co, some x10cl⟩)]), .r (.tuple #[]) H3, .v (.pointer (some ⟨x13p, x13o, some x13l⟩))] (ai h1 (ai h2 (ai h3 (ai h4 (ai h5 (ai h6 (ai h7 (ai h8 (ai h9 (ai h10 (Eq.refl ((Value.pointer (some ⟨x13p, x13o, some x13l⟩), H3) : Value × AHeap)))))))))))) (by kernel_rfl) rfl
end Go.Proofs.Ytkemihfaohkoeaa.Am11
set_option linter.unusedVariables false
open Go Go.Proofs.Ytkemihfaohkoeaa.Am
namespace Go.Proofs.Ytkemihfaohkoeaa.Am11
theorem f47_F_0 {x0 : Int} {x1p x1o x1l x2p x2o x2l x3p x3o x3l : Nat} {H : AHeap} {prot : Nat} {x7a : Option Addr} {x7n x7c x9p x9o x9l : Nat} {x10a : Option Addr} {x10n x10c : Nat} {H1 : AHeap} (h1 : getCells H x1p x1l x1o 1 = some [Value.slice x7a x7n x7c]) (h2 : aindexAddr cfg.P 22 (Value.slice x7a x7n x7c) (Value.int .i64 x0) = some (Value.pointer (some ⟨x9p, x9o, some x9l⟩))) (h3 : getCells H x9p x9l x9o 1 = some [Value.slice x10a x10n x10c]) (h4 : lpInf (lpOf cfg a47 0 prot H) ([Value.pointer (some ⟨x2p, x2o, some x2l⟩), Value.pointer (some ⟨x3p, x3o, some x3l⟩), Value.slice x10a x10n x10c, Value.int .i64 (↑x10n : Int), Value.int .i64 0], H) = some (Ex.exit 0, [], H1)) : callInf cfg 47 [.int .i64 x0, .pointer (some ⟨x1p, x1o, some x1l⟩), .pointer (some ⟨x2p, x2o, some x2l⟩), .pointer (some ⟨x3p, x3o, some x3l⟩)] prot H = some (Value.tuple { toList := [] }, H1) :=
  fn_of2 a47 [.v (.slice x7a x7n x7c), .v (.pointer (some ⟨x9p, x9o, some x9l⟩)), .v (.slice x10a x10n x10c), .e, .lo (.exit 0, [], H1)] (ai h1 (ai h2 (ai h3 (ai h4 (Eq.refl ((Value.tuple { toList := [] }, H1) : Value × AHeap)))))) (by kernel_rfl) rfl
theorem f47_L0_0 {x2p x2o x2l x3p x3o x3l : Nat} {x10a : Option Addr} {x10n x10c : Nat} {x11 x12 : Int} {H0 : AHeap} {prot : Nat} {H : AHeap} {x14p x14o x14l : Nat} {x15 : Int} {x16p x16o x16l : Nat} {x20 : Bool} (h1 : x12 < x11) (h2 : aindexAddr cfg.P 34 (Value.slice x10a x10n x10c) (Value.int .i64 x12) = some (Value.pointer (some ⟨x14p, x14o, some x14l⟩))) (h3 : getCells H x14p x14l x14o 1 = some [Value.int .i64 x15]) (h4 : getCells H x2p x2l x2o 1 = some [Value.pointer (some ⟨x16p, x16o, some x16l⟩)]) (h5 : 0 ≤ x15) (h6 : x15 < (↑512 : Int)) (h7 : getCells H x16p x16l (x16o + x15.toNat * 1) 1 = some [Value.bool x20]) (h8 : (!x20) = false) (h9 : Fit .i64 (x12 + 1)) : lpOf cfg a47 0 prot H0 ([.pointer (some ⟨x2p, x2o, some x2l⟩), .pointer (some ⟨x3p, x3o, some x3l⟩), .slice x10a x10n x10c, .int .i64 x11, .int .i64 x12], H) = some (Sum.inl ([Value.pointer (some ⟨x2p, x2o, some x2l⟩), Value.pointer (some ⟨x3p, x3o, some x3l⟩), Value.slice x10a x10n x10c, Value.int .i64 x11, Value.int .i64 (x12 + 1)], H)) :=
  lp_of2 [.e, .b true, .v (.pointer (some ⟨x14p, x14o, some x14l⟩)), .v (.int .i64 x15), .v (.pointer (some ⟨x16p, x16o, some x16l⟩)), .e, .v (.bool x20), .e, .b false, .e] (ai (decide_eq_true h1) (ai h2 (ai h3 (ai h4 (ai h5 (ai h6 (ai h7 (ai h8 (ai h9 (Eq.refl (Sum.inl ([Value.pointer (some ⟨x2p, x2o, some x2l⟩), Value.pointer (some ⟨x3p, x3o, some x3l⟩), Value.slice x10a x10n x10c, Value.int .i64 x11, Value.int .i64 (x12 + 1)], H) : LS ⊕ LO))))))))))) (by kernel_rfl)
theorem f47_L0_1 {x2p x2o x2l x3p x3o x3l : Nat} {x10a : Option Addr} {x10n x10c : Nat} {x11 x12 : Int} {H0 : AHeap} {prot : Nat} {H : AHeap} {x14p x14o x14l : Nat} {x15 : Int} {x16p x16o x16l : Nat} {x20 : Bool} {x22p x22o x22l : Nat} {H2 : AHeap} {x26ap x26ao x26al x26bp x26bo x26bl x26cp x26co x26cl : Nat} {H3 : AHeap} (h1 : x12 < x11) (h2 : aindexAddr cfg.P 34 (Value.slice x10a x10n x10c) (Value.int .i64 x12) = some (Value.pointer (some ⟨x14p, x14o, some x14l⟩))) (h3 : getCells H x14p x14l x14o 1 = some [Value.int .i64 x15]) (h4 : getCells H x2p x2l x2o 1 = some [Value.pointer (some ⟨x16p, x16o, some x16l⟩)]) (h5 : 0 ≤ x15) (h6 : x15 < (↑512 : Int)) (h7 : getCells H x16p x16l (x16o + x15.toNat * 1) 1 = some [Value.bool x20]) (h8 : (!x20) = true) (h9 : getCells H x2p x2l x2o 1 = some [Value.pointer (some ⟨x22p, x22o, some x22l⟩)]) (h10 : [Value.bool true].length = 1) (h11 : setCells H prot x22p x22l (x22o + x15.toNat * 1) [Value.bool true] = some H2) (h12 : getCells H2 x3p x3l x3o 1 = some [Value.func (Fn.func 47) { toList := [] } { toList := [Value.pointer (some ⟨x26ap, x26ao, some x26al⟩), Value.pointer (some ⟨x26bp, x26bo, some x26bl⟩), Value.pointer (some ⟨x26cp, x26co, some x26cl⟩)] }]) (h13 : callInf cfg 47 [Value.int .i64 x15, Value.pointer (some ⟨x26ap, x26ao, some x26al⟩), Value.pointer (some ⟨x26bp, x26bo, some x26bl⟩), Value.pointer (some ⟨x26cp, x26co, some x26cl⟩)] prot H2 = some (Value.tuple { toList := [] }, H3)) (h14 : Fit .i64 (x12 + 1)) : lpOf cfg a47 0 prot H0 ([.pointer (some ⟨x2p, x2o, some x2l⟩), .pointer (some ⟨x3p, x3o, some x3l⟩), .slice x10a x10n x10c, .int .i64 x11, .int .i64 x12], H) = some (Sum.inl ([Value.pointer (some ⟨x2p, x2o, some x2l⟩), Value.pointer (some ⟨x3p, x3o, some x3l⟩), Value.slice x10a x10n x10c, Value.int .i64 x11, Value.int .i64 (x12 + 1)], H3)) :=
  lp_of2 [.e, .b true, .v (.pointer (some ⟨x14p, x14o, some x14l⟩)), .v (.int .i64 x15), .v (.pointer (some ⟨x16p, x16o, some x16l⟩)), .e, .v (.bool x20), .e, .b true, .v (.pointer (some ⟨x22p, x22o, some x22l⟩)), .e, .h H2, .v (.func (.func 47) #[] #[.pointer (some ⟨x26ap, x26ao, some x26al⟩), .pointer (some ⟨x26bp, x26bo, some x26bl⟩), .pointer (some ⟨x26cp, x26co, some x26cl⟩)]), .r (.tuple #[]) H3, .e] (ai (decide_eq_true h1) (ai h2 (ai h3 (ai h4 (ai h5 (ai h6 (ai h7 (ai h8 (ai h9 (ai h5 (ai h6 (ai h10 (ai h11 (ai h12 (ai h13 (ai h14 (Eq.refl (Sum.inl ([Value.pointer (some ⟨x2p, x2o, some x2l⟩), Value.pointer (some ⟨x3p, x3o, some x3l⟩), Value.slice x10a x10n x10c, Value.int .i64 x11, Value.int .i64 (x12 + 1)], H3) : LS ⊕ LO)))))))))))))))))) (by kernel_rfl)
theorem f47_L0_2 {x2p x2o x2l x3p x3o x3l : Nat} {x10a : Option Addr} {x10n x10c : Nat} {x11 x12 : Int} {H0 : AHeap} {prot : Nat} {H : AHeap} (h1 : ¬(x12 < x11)) : lpOf cfg a47 0 prot H0 ([.pointer (some ⟨x2p, x2o, some x2l⟩), .pointer (some ⟨x3p, x3o, some x3l⟩), .slice x10a x10n x10c, .int .i64 x11, .int .i64 x12], H) = some (Sum.inr (Ex.exit 0, [], H)) :=
  lp_of2 [.e, .b false] (ai (decide_eq_false h1) (Eq.refl (Sum.inr (Ex.exit 0, [], H) : LS ⊕ LO))) (by kernel_rfl)
end Go.Proofs.Ytkemihfaohkoeaa.Am11
namespace Go.Proofs.Ytkemihfaohkoeaa.Am11
open Go Go.Proofs.Ytkemihfaohkoeaa.Am
theorem bd77 : abuild cfg.P 77 [] = some (.agg ⟨List.replicate 512 (.bool false)⟩) := by kernel_rfl
def bll (l : List Bool) : List Value := l.map .bool
abbrev f47 (p1 p2 p3 : Nat) : Value := .func (.func 47) #[] #[.pointer (some ⟨p1, 0, some 1⟩), .pointer (some ⟨p2, 0, some 1⟩), .pointer (some ⟨p3, 0, some 1⟩)]
theorem sc_get {G : List (List Int)} (hG : Good G) {v : Nat} (hv : v < G.length) {i : Nat} (hi : i < G[v].length) : ∃ u : Nat, G[v][i] = (u : Int) ∧ u < G.length ∧ (sc G v)[i]? = some u := by
  have h := hG.2.2 v G[v] G[v][i] (List.getElem?_eq_getElem hv) (List.getElem_mem hi)
  refine ⟨G[v][i].toNat, by omega, by omega, ?_⟩
  unfold sc
  rw [List.getD_eq_getElem?_getD, List.getElem?_eq_getElem hv, Option.getD_some, List.getElem?_map, List.getElem?_eq_getElem hi]
  rfl
theorem sc_len {G : List (List Int)} {v : Nat} (hv : v < G.length) : (sc G v).length = G[v].length := by
  unfold sc
  rw [List.length_map, List.getD_eq_getElem?_getD, List.getElem?_eq_getElem hv]; rfl

structure W47 (G0 H : AHeap) (vG : Value) (p1 p2 p3 pm : Nat) (M : List Bool) : Prop where
  g1 : H[p1]? = some (.cells [vG] 22 1 .var)
  g2 : H[p2]? = some (.cells [.pointer (some ⟨pm, 0, some 512⟩)] 68 1 .var)
  g3 : H[p3]? = some (.cells [f47 p1 p2 p3] 78 1 .var)
  gm : H[pm]? = some (.cells (bll M) 77 512 .var)
  ml : M.length = 512
  st : Stay none G0 H
theorem one_get {H : AHeap} {p e : Nat} {v : Value} {md : OMode} (h : H[p]? = some (.cells [v] e 1 md)) : getCells H p 1 0 1 = some [v] := by
  unfold getCells
  rw [h]
  rfl
theorem at_get {M : List Bool} {u : Nat} (h : u < M.length) : (bll M)[u]? = some (.bool (at_ M u)) := by
  unfold bll at_
  rw [List.getElem?_map, List.getElem?_eq_getElem h, List.getD_eq_getElem?_getD, List.getElem?_eq_getElem h]; rfl

theorem loop47 {G : List (List Int)} (hG : Good G) {G0 : AHeap} {vG : Value} (hg : Gr G0 vG G) {p1 p2 p3 pm prot : Nat} (hpm : G0.length ≤ pm) (hd1 : p1 ≠ pm) (hd2 : p2 ≠ pm) (hd3 : p3 ≠ pm) (hp : prot ≤ pm) {v : Nat} (hv : v < G.length) {M : List Bool} (hM : M.length = 512)
    (ih : ∀ (M1 : List Bool) (u : Nat) (H : AHeap), unm M1 < unm M → u < G.length → W47 G0 H vG p1 p2 p3 pm M1 →
      ∃ M2 H', callInf cfg 47 [.int .i64 u, .pointer (some ⟨p1, 0, some 1⟩), .pointer (some ⟨p2, 0, some 1⟩), .pointer (some ⟨p3, 0, some 1⟩)] prot H = some (.tuple #[], H') ∧ W47 G0 H' vG p1 p2 p3 pm M2 ∧ Post G M1 u (sc G u).length M2 ∧ Stay (some pm) H H' ∧ H'.length = H.length)
    {H0 : AHeap} {r : Value} (hr : Rd G0 3 1 r G[v].length (il G[v])) : ∀ (d i : Nat) (M1 : List Bool) (H : AHeap), i + d = G[v].length → W47 G0 H vG p1 p2 p3 pm M1 → Post G M v i M1 →
    ∃ M2 H', lpInf (lpOf cfg a47 0 prot H0) ([.pointer (some ⟨p2, 0, some 1⟩), .pointer (some ⟨p3, 0, some 1⟩), r, .int .i64 G[v].length, .int .i64 i], H) = some (.exit 0, [], H') ∧ W47 G0 H' vG p1 p2 p3 pm M2 ∧ Post G M v (sc G v).length M2 ∧ Stay (some pm) H H' ∧ H'.length = H.length
  | 0, i, M1, H, hi, hw, hpo => by
    have he : i = (sc G v).length := by rw [sc_len hv]; omega
    subst he
    obtain ⟨_, _, hre⟩ := hr.len
    refine ⟨M1, H, ?_, hw, hpo, Stay.refl _ _, rfl⟩
    rw [hre]
    exact lp_last (f47_L0_2 (by omega))
  | d + 1, i, M1, H, hi, hw, hpo => by
    have hn := hG.1
    have hs := hG.2.1 _ (List.getElem_mem hv)
    have hil : i < G[v].length := by omega
    obtain ⟨u, e1, hu, hsc⟩ := sc_get hG hv hil
    have hrH := hr.stay hw.st
    obtain ⟨id, L, p, q⟩ := rd_at T34 hrH (il_get hil)
    rw [e1] at q
    have hu512 : u < M1.length := by rw [hw.ml]; omega
    have g2 := one_get hw.g2
    have gm := arr_get hw.gm (by simp [bll, hw.ml]) (at_get hu512)
    have fi : Fit .i64 ((i : Int) + 1) := fit64 (by omega) (by omega)
    obtain ⟨ar, cr, hre⟩ := hr.len
    by_cases hm : at_ M1 u = true
    · rw [hm] at gm
      obtain ⟨M2, H', z1, z2, z3, z4, z5⟩ := loop47 hG hg hpm hd1 hd2 hd3 hp hv hM ih hr (H0 := H0) d (i + 1) M1 H (by omega) hw (hpo.skip hsc hm)
      refine ⟨M2, H', ?_, z2, z3, z4, z5⟩
      rw [hre] at p z1 ⊢
      exact lp_next (f47_L0_0 (by omega) p q g2 (by omega) (by omega) gm rfl fi) z1
    · have hm : at_ M1 u = false := by simpa using hm
      rw [hm] at gm
      obtain ⟨H2, hH2⟩ : ∃ H2, H2 = H.set pm (.cells (bll (M1.set u true)) 77 512 .var) := ⟨_, rfl⟩
      have hset : setCells H prot pm 512 (0 + u * 1) [.bool true] = some H2 := by
        rw [hH2, show bll (M1.set u true) = (bll M1).set u (.bool true) by simp [bll, List.map_set]]
        exact arr_set hw.gm (by simp [bll, hw.ml]) hp (by omega) rfl
      have s2 : Stay (some pm) H H2 := by rw [hH2]; exact set_stay
      have hpml := (List.getElem?_eq_some_iff.1 hw.gm).1
      have hw2 : W47 G0 H2 vG p1 p2 p3 pm (M1.set u true) :=
        ⟨by rw [s2.2 _ (List.getElem?_eq_some_iff.1 hw.g1).1 (fun e => hd1 (Option.some.inj e).symm)]; exact hw.g1, by rw [s2.2 _ (List.getElem?_eq_some_iff.1 hw.g2).1 (fun e => hd2 (Option.some.inj e).symm)]; exact hw.g2,
         by rw [s2.2 _ (List.getElem?_eq_some_iff.1 hw.g3).1 (fun e => hd3 (Option.some.inj e).symm)]; exact hw.g3, by rw [hH2, List.getElem?_set_self hpml], by rw [List.length_set]; exact hw.ml, hw.st.over s2 (fun id e => by cases e; exact hpm)⟩
      have hlt : unm (M1.set u true) < unm M := by
        have h1 := unm_set M1 u hu512 hm
        have h2 := unm_mono hpo.len.symm hpo.mono
        omega
      obtain ⟨M2, H3, c1, c2, c3, c4, c5⟩ := ih (M1.set u true) u H2 hlt hu hw2
      obtain ⟨M3, H', z1, z2, z3, z4, z5⟩ := loop47 hG hg hpm hd1 hd2 hd3 hp hv hM ih hr (H0 := H0) d (i + 1) M2 H3 (by omega) c2 (hpo.down hsc hu512 c3)
      have l2 : H2.length = H.length := by rw [hH2]; simp
      refine ⟨M3, H', ?_, z2, z3, (s2.trans c4).trans z4, by omega⟩
      have g3 := one_get hw2.g3
      rw [hre] at p z1 ⊢
      exact lp_next (f47_L0_1 (by omega) p q g2 (by omega) (by omega) gm rfl g2 rfl hset g3 c1 fi) z1

theorem c47 {G : List (List Int)} (hG : Good G) {G0 : AHeap} {vG : Value} (hg : Gr G0 vG G) {p1 p2 p3 pm prot : Nat} (hpm : G0.length ≤ pm) (hd1 : p1 ≠ pm) (hd2 : p2 ≠ pm) (hd3 : p3 ≠ pm) (hp : prot ≤ pm) : ∀ (N : Nat) (M : List Bool) (v : Nat) (H : AHeap), unm M < N → v < G.length → W47 G0 H vG p1 p2 p3 pm M →
    ∃ M2 H', callInf cfg 47 [.int .i64 v, .pointer (some ⟨p1, 0, some 1⟩), .pointer (some ⟨p2, 0, some 1⟩), .pointer (some ⟨p3, 0, some 1⟩)] prot H = some (.tuple #[], H') ∧ W47 G0 H' vG p1 p2 p3 pm M2 ∧ Post G M v (sc G v).length M2 ∧ Stay (some pm) H H' ∧ H'.length = H.length
  | 0, M, v, H, hN, hv, hw => by omega
  | N + 1, M, v, H, hN, hv, hw => by
    have hgH := hg.stay hw.st
    obtain ⟨cs, r1, r2⟩ := hg
    obtain ⟨r, ra, rb⟩ := r2 v G[v] (List.getElem?_eq_getElem hv)
    obtain ⟨id, L, p, q⟩ := rd_at T22 (r1.stay hw.st) ra
    obtain ⟨M2, H', z1, z2, z3, z4, z5⟩ := loop47 hG ⟨cs, r1, r2⟩ hpm hd1 hd2 hd3 hp hv hw.ml (fun M1 u H1 h1 h2 h3 => c47 hG ⟨cs, r1, r2⟩ hpm hd1 hd2 hd3 hp N M1 u H1 (by omega) h2 h3) (H0 := H) rb G[v].length 0 M H (by omega) hw (Post.start G M v)
    refine ⟨M2, H', ?_, z2, z3, z4, z5⟩
    have g1 := one_get hw.g1
    obtain ⟨_, _, hre⟩ := rb.len
    obtain ⟨_, _, hge⟩ := hgH.len
    rw [hre] at q z1
    rw [hge] at g1 p
    exact f47_F_0 g1 p q z1

/-- What is reached by ways that are not empty, in an array of marks. -/
theorem c39 {G : List (List Int)} (hG : Good G) {vG : Value} (prot : Nat) {H : AHeap} (hg : Gr H vG G) {v : Nat} (hv : v < G.length) :
    ∃ pm M H', callInf cfg 39 [vG, .int .i64 v] prot H = some (.pointer (some ⟨pm, 0, some 512⟩), H') ∧ H'[pm]? = some (.cells (bll M) 77 512 .var) ∧ M.length = 512 ∧ (∀ x, at_ M x = true ↔ Rch G v x) ∧ Stay none H H' ∧ H.length ≤ pm := by
  obtain ⟨aG, cG, rfl⟩ := hg.len
  obtain ⟨HA, hHA⟩ : ∃ HA, HA = H ++ [vo [.slice aG G.length cG] 22] := ⟨_, rfl⟩
  obtain ⟨HB, hHB⟩ : ∃ HB, HB = HA ++ [AObj.cells (List.replicate 512 (Value.bool false)) 77 (List.replicate 512 (Value.bool false)).length .var] := ⟨_, rfl⟩
  obtain ⟨HC, hHC⟩ : ∃ HC, HC = HB ++ [vo [.pointer none] 68] := ⟨_, rfl⟩
  have lA : HA.length = H.length + 1 := by rw [hHA]; simp
  have lB : HB.length = H.length + 2 := by rw [hHB, List.length_append, List.length_singleton]; omega
  have lC : HC.length = H.length + 3 := by rw [hHC, List.length_append, List.length_singleton]; omega
  have sA : Stay none H HA := by rw [hHA]; exact Stay.app none H _
  have sB : Stay none HA HB := by rw [hHB]; exact Stay.app none HA _
  have sC : Stay none HB HC := by rw [hHC]; exact Stay.app none HB _
  have gA : HC[H.length]? = some (.cells [.slice aG G.length cG] 22 1 .var) := by
    rw [sC.2 _ (by omega) (by simp), sB.2 _ (by omega) (by simp), hHA]; exact append_get.1
  have gB : HC[HA.length]? = some (.cells (List.replicate 512 (Value.bool false)) 77 512 .var) := by
    rw [sC.2 _ (by omega) (by simp), hHB, append_get.1, List.length_replicate]
  have gC : HC[HB.length]? = some (.cells [.pointer none] 68 1 .var) := by rw [hHC]; exact append_get.1
  obtain ⟨H1, hH1⟩ : ∃ H1, H1 = HC.set HB.length (.cells [.pointer (some ⟨HA.length, 0, some 512⟩)] 68 1 .var) := ⟨_, rfl⟩
  have s1 : Stay (some HB.length) HC H1 := by rw [hH1]; exact set_stay
  have l1 : H1.length = H.length + 3 := by rw [hH1, List.length_set, lC]
  have e1 : setCells HC H.length HB.length 1 0 [.pointer (some ⟨HA.length, 0, some (List.replicate 512 (Value.bool false)).length⟩)] = some H1 := by
    rw [hH1, List.length_replicate]; exact arr_put gC rfl (by omega) rfl rfl
  obtain ⟨HD, hHD⟩ : ∃ HD, HD = H1 ++ [vo [.nilFunc] 78] := ⟨_, rfl⟩
  have sD : Stay none H1 HD := by rw [hHD]; exact Stay.app none H1 _
  have lD : HD.length = H.length + 4 := by rw [hHD, List.length_append, List.length_singleton]; omega
  have gD : HD[H1.length]? = some (.cells [.nilFunc] 78 1 .var) := by rw [hHD]; exact append_get.1
  obtain ⟨H2, hH2⟩ : ∃ H2, H2 = HD.set H1.length (.cells [f47 H.length HB.length H1.length] 78 1 .var) := ⟨_, rfl⟩
  have s2 : Stay (some H1.length) HD H2 := by rw [hH2]; exact set_stay
  have l2 : H2.length = H.length + 4 := by rw [hH2, List.length_set, lD]
  have e2 : setCells HD H.length H1.length 1 0 [f47 H.length HB.length H1.length] = some H2 := by
    rw [hH2]; exact arr_put gD rfl (by omega) rfl rfl
  have stAll : Stay none H H2 := ((((sA.trans sB).trans sC).over s1 (fun id e => by have := Option.some.inj e; omega)).trans sD).over s2 (fun id e => by have := Option.some.inj e; omega)
  have hcarry : ∀ q o, q < H.length + 3 → q ≠ HB.length → HC[q]? = some o → H2[q]? = some o := fun q o hq hne h => by
    rw [s2.2 q (by omega) (fun e => by have := Option.some.inj e; omega), sD.2 q (by omega) (by simp), s1.2 q (by omega) (fun e => hne (Option.some.inj e).symm)]; exact h
  obtain ⟨M0, hM0⟩ : ∃ M0, M0 = List.replicate 512 false := ⟨_, rfl⟩
  have hw : W47 H H2 (.slice aG G.length cG) H.length HB.length H1.length HA.length M0 := by
    refine ⟨hcarry _ _ (by omega) (by omega) gA, ?_, ?_, ?_, by rw [hM0]; exact List.length_replicate, stAll⟩
    · rw [s2.2 _ (by omega) (fun e => by have := Option.some.inj e; omega), sD.2 _ (by omega) (by simp), hH1, List.getElem?_set_self (by omega)]
    · rw [hH2, List.getElem?_set_self (by omega)]
    · have := hcarry _ _ (by omega) (by omega) gB
      rw [this, hM0]
      unfold bll
      rw [List.map_replicate]
  obtain ⟨M, H', z1, z2, z3, z4, z5⟩ := c47 hG hg (prot := H.length) (show H.length ≤ HA.length by omega) (by omega) (by omega) (by omega) (by omega) (unm M0 + 1) M0 v H2 (Nat.lt_succ_self _) hv hw
  rw [hM0] at z3
  refine ⟨HA.length, M, H', ?_, z2.gm, z2.ml, z3.all, z2.st, by omega⟩
  have g8 := one_get hw.g3
  have g10 := one_get z2.g2
  subst hHD; subst hHC; subst hHB; subst hHA
  exact f39_F_0 (x7 := ⟨List.replicate 512 (.bool false)⟩) rfl bd77 (by rw [List.all_eq_true]; intro x hx; rw [List.mem_replicate] at hx; rw [hx.2]; rfl) rfl e1 rfl (by rw [List.length_replicate] at *; exact e2) g8 z1 g10
end Go.Proofs.Ytkemihfaohkoeaa.Am11
set_option linter.unusedVariables false
open Go Go.Proofs.Ytkemihfaohkoeaa.Am
namespace Go.Proofs.Ytkemihfaohkoeaa.Am11
theorem f37_F_0 {x0a : Option Addr} {x0n x0c : Nat} {H : AHeap} {prot : Nat} {z3a : Option Addr} {z3n z3c : Nat} {H1 : AHeap} (rv : Value) (rH : AHeap) (h1 : lpInf (lpOf cfg a37 0 prot H) ([Value.slice x0a x0n x0c, Value.slice none 0 0, Value.int .i64 (↑x0n : Int), Value.int .i64 0], H) = some (Ex.exit 0, [Value.slice z3a z3n z3c], H1)) (h2 : pfin a37 H [Value.slice z3a z3n z3c] H1 = (rv, rH)) : callInf cfg 37 [.slice x0a x0n x0c] prot H = some (rv, rH) :=
  fn_of2 a37 [.e, .lo (.exit 0, [.slice z3a z3n z3c], H1)] (ai h1 h2) (by kernel_rfl) rfl
theorem f37_L0_0 {x0a : Option Addr} {x0n x0c : Nat} {x3a : Option Addr} {x3n x3c : Nat} {x6 x7 : Int} {H0 : AHeap} {prot : Nat} {H : AHeap} {x13p x13o x13l : Nat} {H2 : AHeap} {x15a : Option Addr} {x15n x15c : Nat} {H3 : AHeap} (h1 : x7 < x6) (h2 : callInf cfg 39 [Value.slice x0a x0n x0c, Value.int .i64 x7] (List.length H0) H = some (Value.pointer (some ⟨x13p, x13o, some x13l⟩), H2)) (h3 : aappend cfg.P (List.length H0) true 65 65 (Value.slice x3a x3n x3c) (Value.slice (some ⟨List.length H2, 0, some (1 * 1)⟩) 1 1) (H2 ++ [wo [Value.pointer (some ⟨x13p, x13o, some x13l⟩)] 68]) = some (Value.slice x15a x15n x15c, H3)) (h4 : Fit .i64 (x7 + 1)) : lpOf cfg a37 0 prot H0 ([.slice x0a x0n x0c, .slice x3a x3n x3c, .int .i64 x6, .int .i64 x7], H) = some (Sum.inl ([Value.slice x0a x0n x0c, Value.slice x15a x15n x15c, Value.int .i64 x6, Value.int .i64 (x7 + 1)], H3)) :=
  lp_of2 [.e, .b true, .r (.pointer (some ⟨x13p, x13o, some x13l⟩)) H2, .e, .r (.slice x15a x15n x15c) H3, .e] (ai (decide_eq_true h1) (ai h2 (ai h3 (ai h4 (Eq.refl (Sum.inl ([Value.slice x0a x0n x0c, Value.slice x15a x15n x15c, Value.int .i64 x6, Value.int .i64 (x7 + 1)], H3) : LS ⊕ LO)))))) (by kernel_rfl)
theorem f37_L0_1 {x0a : Option Addr} {x0n x0c : Nat} {x3a : Option Addr} {x3n x3c : Nat} {x6 x7 : Int} {H0 : AHeap} {prot : Nat} {H : AHeap} (h1 : ¬(x7 < x6)) : lpOf cfg a37 0 prot H0 ([.slice x0a x0n x0c, .slice x3a x3n x3c, .int .i64 x6, .int .i64 x7], H) = some (Sum.inr (Ex.exit 0, [Value.slice x3a x3n x3c], H)) :=
  lp_of2 [.e, .b false] (ai (decide_eq_false h1) (Eq.refl (Sum.inr (Ex.exit 0, [Value.slice x3a x3n x3c], H) : LS ⊕ LO))) (by kernel_rfl)
end Go.Proofs.Ytkemihfaohkoeaa.Am11
set_option linter.unusedVariables false
open Go Go.Proofs.Ytkemihfaohkoeaa.Am
namespace Go.Proofs.Ytkemihfaohkoeaa.Am11
theorem f36_F_0 {x0a : Option Addr} {x0n x0c : Nat} {x1a : Option Addr} {x1n x1c : Nat} {H : AHeap} {prot : Nat} {z6a : Option Addr} {z6n z6c : Nat} {z7 : Int} {H1 : AHeap} (rv : Value) (rH : AHeap) (h1 : 0 ≤ (↑x0n : Int)) (h2 : (↑x0n : Int) = (↑x0n : Int)) (h3 : (↑x0n : Int) ≤ 9223372036854775807) (h4 : (↑8 : Int) * (↑x0n : Int) ≤ 2 ^ 48) (h5 : lpInf (lpOf cfg a36 0 prot H) ([Value.slice x1a x1n x1c, Value.slice (some ⟨List.length H, 0, some ((↑x0n : Int).toNat * 1)⟩) (↑x0n : Int).toNat (↑x0n : Int).toNat, Value.int .i64 0, Value.int .i64 (↑x0n : Int), Value.int .i64 0], H ++ [AObj.cells (repCells [Value.int .i64 0] (↑x0n : Int).toNat) 3 (repCells [Value.int .i64 0] (↑x0n : Int).toNat).length OMode.row]) = some (Ex.exit 0, [Value.slice z6a z6n z6c, Value.int .i64 z7], H1)) (h6 : pfin a36 H [Value.slice z6a z6n z6c, Value.int .i64 z7] H1 = (rv, rH)) : callInf cfg 36 [.slice x0a x0n x0c, .slice x1a x1n x1c] prot H = some (rv, rH) :=
  fn_of2 a36 [.e, .e, .e, .lo (.exit 0, [.slice z6a z6n z6c, .int .i64 z7], H1)] (ai h1 (ai h2 (ai h3 (ai h4 (ai h5 h6))))) (by kernel_rfl) rfl
theorem f36_L0_0 {x1a : Option Addr} {x1n x1c : Nat} {x6a : Option Addr} {x6n x6c : Nat} {x7 x14 x15 : Int} {H0 : AHeap} {prot : Nat} {H : AHeap} {x20p x20o x20l : Nat} {H2 : AHeap} {z1a : Option Addr} {z1n z1c : Nat} {z6a : Option Addr} {z6n z6c : Nat} {z7 z8 z14 z15 : Int} {H3 : AHeap} {x53p x53o x53l : Nat} {x54 : Int} {x59p x59o x59l : Nat} {H4 : AHeap} (h1 : x15 < x14) (h2 : aindexAddr cfg.P 34 (Value.slice x6a x6n x6c) (Value.int .i64 x15) = some (Value.pointer (some ⟨x20p, x20o, some x20l⟩))) (h3 : [Value.int .i64 (-1)].length = 1) (h4 : setCells H (List.length H0) x20p x20l x20o [Value.int .i64 (-1)] = some H2) (h5 : lpInf (lpOf cfg a36 1 prot H0) ([Value.slice x1a x1n x1c, Value.slice x6a x6n x6c, Value.int .i64 x7, Value.int .i64 x15, Value.int .i64 x14, Value.int .i64 x15, Value.int .i64 x15, Value.int .i64 0], H2) = some (Ex.exit 2, [Value.slice z1a z1n z1c, Value.slice z6a z6n z6c, Value.int .i64 z7, Value.int .i64 z8, Value.int .i64 z14, Value.int .i64 z15], H3)) (h6 : aindexAddr cfg.P 34 (Value.slice z6a z6n z6c) (Value.int .i64 z8) = some (Value.pointer (some ⟨x53p, x53o, some x53l⟩))) (h7 : getCells H3 x53p x53l x53o 1 = some [Value.int .i64 x54]) (h8 : x54 < 0) (h9 : aindexAddr cfg.P 34 (Value.slice z6a z6n z6c) (Value.int .i64 z8) = some (Value.pointer (some ⟨x59p, x59o, some x59l⟩))) (h10 : [Value.int .i64 z7].length = 1) (h11 : setCells H3 (List.length H0) x59p x59l x59o [Value.int .i64 z7] = some H4) (h12 : Fit .i64 (z7 + 1)) (h13 : Fit .i64 (z15 + 1)) : lpOf cfg a36 0 prot H0 ([.slice x1a x1n x1c, .slice x6a x6n x6c, .int .i64 x7, .int .i64 x14, .int .i64 x15], H) = some (Sum.inl ([Value.slice z1a z1n z1c, Value.slice z6a z6n z6c, Value.int .i64 (z7 + 1), Value.int .i64 z14, Value.int .i64 (z15 + 1)], H4)) :=
  lp_of2 [.e, .b true, .v (.pointer (some ⟨x20p, x20o, some x20l⟩)), .h H2, .lo (.exit 2, [.slice z1a z1n z1c, .slice z6a z6n z6c, .int .i64 z7, .int .i64 z8, .int .i64 z14, .int .i64 z15], H3), .v (.pointer (some ⟨x53p, x53o, some x53l⟩)), .v (.int .i64 x54), .e, .b true, .v (.pointer (some ⟨x59p, x59o, some x59l⟩)), .h H4, .e, .e] (ai (decide_eq_true h1) (ai h2 (ai h3 (ai h4 (ai h5 (ai h6 (ai h7 (ai (decide_eq_true h8) (ai h9 (ai h10 (ai h11 (ai h12 (ai h13 (Eq.refl (Sum.inl ([Value.slice z1a z1n z1c, Value.slice z6a z6n z6c, Value.int .i64 (z7 + 1), Value.int .i64 z14, Value.int .i64 (z15 + 1)], H4) : LS ⊕ LO))))))))))))))) (by kernel_rfl)
theorem f36_L0_1 {x1a : Option Addr} {x1n x1c : Nat} {x6a : Option Addr} {x6n x6c : Nat} {x7 x14 x15 : Int} {H0 : AHeap} {prot : Nat} {H : AHeap} {x20p x20o x20l : Nat} {H2 : AHeap} {z1a : Option Addr} {z1n z1c : Nat} {z6a : Option Addr} {z6n z6c : Nat} {z7 z8 z14 z15 : Int} {H3 : AHeap} {x53p x53o x53l : Nat} {x54 : Int} (h1 : x15 < x14) (h2 : aindexAddr cfg.P 34 (Value.slice x6a x6n x6c) (Value.int .i64 x15) = some (Value.pointer (some ⟨x20p, x20o, some x20l⟩))) (h3 : [Value.int .i64 (-1)].length = 1) (h4 : setCells H (List.length H0) x20p x20l x20o [Value.int .i64 (-1)] = some H2) (h5 : lpInf (lpOf cfg a36 1 prot H0) ([Value.slice x1a x1n x1c, Value.slice x6a x6n x6c, Value.int .i64 x7, Value.int .i64 x15, Value.int .i64 x14, Value.int .i64 x15, Value.int .i64 x15, Value.int .i64 0], H2) = some (Ex.exit 2, [Value.slice z1a z1n z1c, Value.slice z6a z6n z6c, Value.int .i64 z7, Value.int .i64 z8, Value.int .i64 z14, Value.int .i64 z15], H3)) (h6 : aindexAddr cfg.P 34 (Value.slice z6a z6n z6c) (Value.int .i64 z8) = some (Value.pointer (some ⟨x53p, x53o, some x53l⟩))) (h7 : getCells H3 x53p x53l x53o 1 = some [Value.int .i64 x54]) (h8 : ¬(x54 < 0)) (h9 : Fit .i64 (z15 + 1)) : lpOf cfg a36 0 prot H0 ([.slice x1a x1n x1c, .slice x6a x6n x6c, .int .i64 x7, .int .i64 x14, .int .i64 x15], H) = some (Sum.inl ([Value.slice z1a z1n z1c, Value.slice z6a z6n z6c, Value.int .i64 z7, Value.int .i64 z14, Value.int .i64 (z15 + 1)], H3)) :=
  lp_of2 [.e, .b true, .v (.pointer (some ⟨x20p, x20o, some x20l⟩)), .h H2, .lo (.exit 2, [.slice z1a z1n z1c, .slice z6a z6n z6c, .int .i64 z7, .int .i64 z8, .int .i64 z14, .int .i64 z15], H3), .v (.pointer (some ⟨x53p, x53o, some x53l⟩)), .v (.int .i64 x54), .e, .b false, .e] (ai (decide_eq_true h1) (ai h2 (ai h3 (ai h4 (ai h5 (ai h6 (ai h7 (ai (decide_eq_false h8) (ai h9 (Eq.refl (Sum.inl ([Value.slice z1a z1n z1c, Value.slice z6a z6n z6c, Value.int .i64 z7, Value.int .i64 z14, Value.int .i64 (z15 + 1)], H3) : LS ⊕ LO))))))))))) (by kernel_rfl)
theorem f36_L0_2 {x1a : Option Addr} {x1n x1c : Nat} {x6a : Option Addr} {x6n x6c : Nat} {x7 x14 x15 : Int} {H0 : AHeap} {prot : Nat} {H : AHeap} (h1 : ¬(x15 < x14)) : lpOf cfg a36 0 prot H0 ([.slice x1a x1n x1c, .slice x6a x6n x6c, .int .i64 x7, .int .i64 x14, .int .i64 x15], H) = some (Sum.inr (Ex.exit 0, [Value.slice x6a x6n x6c, Value.int .i64 x7], H)) :=
  lp_of2 [.e, .b false] (ai (decide_eq_false h1) (Eq.refl (Sum.inr (Ex.exit 0, [Value.slice x6a x6n x6c, Value.int .i64 x7], H) : LS ⊕ LO))) (by kernel_rfl)
theorem f36_L1_0 {x1a : Option Addr} {x1n x1c : Nat} {x6a : Option Addr} {x6n x6c : Nat} {x7 x8 x14 x15 x21 x22 : Int} {H0 : AHeap} {prot : Nat} {H : AHeap} {x27p x27o x27l x28p x28o x28l : Nat} {x32 : Bool} {x36p x36o x36l x37p x37o x37l : Nat} {x41 : Bool} {x47p x47o x47l : Nat} {x48 : Int} {x49p x49o x49l : Nat} {H2 : AHeap} (h1 : x22 < x21) (h2 : aindexAddr cfg.P 65 (Value.slice x1a x1n x1c) (Value.int .i64 x8) = some (Value.pointer (some ⟨x27p, x27o, some x27l⟩))) (h3 : getCells H x27p x27l x27o 1 = some [Value.pointer (some ⟨x28p, x28o, some x28l⟩)]) (h4 : 0 ≤ x22) (h5 : x22 < (↑512 : Int)) (h6 : getCells H x28p x28l (x28o + x22.toNat * 1) 1 = some [Value.bool x32]) (h7 : x32 = true) (h8 : aindexAddr cfg.P 65 (Value.slice x1a x1n x1c) (Value.int .i64 x22) = some (Value.pointer (some ⟨x36p, x36o, some x36l⟩))) (h9 : getCells H x36p x36l x36o 1 = some [Value.pointer (some ⟨x37p, x37o, some x37l⟩)]) (h10 : 0 ≤ x8) (h11 : x8 < (↑512 : Int)) (h12 : getCells H x37p x37l (x37o + x8.toNat * 1) 1 = some [Value.bool x41]) (h13 : x41 = true) (h14 : aindexAddr cfg.P 34 (Value.slice x6a x6n x6c) (Value.int .i64 x22) = some (Value.pointer (some ⟨x47p, x47o, some x47l⟩))) (h15 : getCells H x47p x47l x47o 1 = some [Value.int .i64 x48]) (h16 : aindexAddr cfg.P 34 (Value.slice x6a x6n x6c) (Value.int .i64 x8) = some (Value.pointer (some ⟨x49p, x49o, some x49l⟩))) (h17 : [Value.int .i64 x48].length = 1) (h18 : setCells H (List.length H0) x49p x49l x49o [Value.int .i64 x48] = some H2) : lpOf cfg a36 1 prot H0 ([.slice x1a x1n x1c, .slice x6a x6n x6c, .int .i64 x7, .int .i64 x8, .int .i64 x14, .int .i64 x15, .int .i64 x21, .int .i64 x22], H) = some (Sum.inr (Ex.exit 2, [Value.slice x1a x1n x1c, Value.slice x6a x6n x6c, Value.int .i64 x7, Value.int .i64 x8, Value.int .i64 x14, Value.int .i64 x15], H2)) :=
  lp_of2 [.e, .b true, .v (.pointer (some ⟨x27p, x27o, some x27l⟩)), .v (.pointer (some ⟨x28p, x28o, some x28l⟩)), .e, .v (.bool x32), .b true, .b true, .b true, .v (.pointer (some ⟨x36p, x36o, some x36l⟩)), .b true, .v (.pointer (some ⟨x37p, x37o, some x37l⟩)), .b true, .b true, .b true, .e, .b true, .v (.bool x41), .b true, .b true, .v (.pointer (some ⟨x47p, x47o, some x47l⟩)), .v (.int .i64 x48), .v (.pointer (some ⟨x49p, x49o, some x49l⟩)), .h H2] (ai (decide_eq_true h1) (ai h2 (ai h3 (ai h4 (ai h5 (ai h6 (ai h7 (ai h7 (ai h7 (ai h8 (ai h7 (ai h9 (ai h7 (ai h7 (ai h7 (ai h10 (ai h11 (ai h7 (ai h12 (ai h7 (ai h13 (ai h14 (ai h15 (ai h16 (ai h17 (ai h18 (Eq.refl (Sum.inr (Ex.exit 2, [Value.slice x1a x1n x1c, Value.slice x6a x6n x6c, Value.int .i64 x7, Value.int .i64 x8, Value.int .i64 x14, Value.int .i64 x15], H2) : LS ⊕ LO)))))))))))))))))))))))))))) (by kernel_rfl)
theorem f36_L1_1 {x1a : Option Addr} {x1n x1c : Nat} {x6a : Option Addr} {x6n x6c : Nat} {x7 x8 x14 x15 x21 x22 : Int} {H0 : AHeap} {prot : Nat} {H : AHeap} {x27p x27o x27l x28p x28o x28l : Nat} {x32 : Bool} {x36p x36o x36l x37p x37o x37l : Nat} {x41 : Bool} (h1 : x22 < x21) (h2 : aindexAddr cfg.P 65 (Value.slice x1a x1n x1c) (Value.int .i64 x8) = some (Value.pointer (some ⟨x27p, x27o, some x27l⟩))) (h3 : getCells H x27p x27l x27o 1 = some [Value.pointer (some ⟨x28p, x28o, some x28l⟩)]) (h4 : 0 ≤ x22) (h5 : x22 < (↑512 : Int)) (h6 : getCells H x28p x28l (x28o + x22.toNat * 1) 1 = some [Value.bool x32]) (h7 : x32 = true) (h8 : aindexAddr cfg.P 65 (Value.slice x1a x1n x1c) (Value.int .i64 x22) = some (Value.pointer (some ⟨x36p, x36o, some x36l⟩))) (h9 : getCells H x36p x36l x36o 1 = some [Value.pointer (some ⟨x37p, x37o, some x37l⟩)]) (h10 : 0 ≤ x8) (h11 : x8 < (↑512 : Int)) (h12 : getCells H x37p x37l (x37o + x8.toNat * 1) 1 = some [Value.bool x41]) (h13 : x41 = false) (h14 : Fit .i64 (x22 + 1)) : lpOf cfg a36 1 prot H0 ([.slice x1a x1n x1c, .slice x6a x6n x6c, .int .i64 x7, .int .i64 x8, .int .i64 x14, .int .i64 x15, .int .i64 x21, .int .i64 x22], H) = some (Sum.inl ([Value.slice x1a x1n x1c, Value.slice x6a x6n x6c, Value.int .i64 x7, Value.int .i64 x8, Value.int .i64 x14, Value.int .i64 x15, Value.int .i64 x21, Value.int .i64 (x22 + 1)], H)) :=
  lp_of2 [.e, .b true, .v (.pointer (some ⟨x27p, x27o, some x27l⟩)), .v (.pointer (some ⟨x28p, x28o, some x28l⟩)), .e, .v (.bool x32), .b true, .b true, .b true, .v (.pointer (some ⟨x36p, x36o, some x36l⟩)), .b true, .v (.pointer (some ⟨x37p, x37o, some x37l⟩)), .b true, .b true, .b true, .e, .b true, .v (.bool x41), .b true, .b false, .e] (ai (decide_eq_true h1) (ai h2 (ai h3 (ai h4 (ai h5 (ai h6 (ai h7 (ai h7 (ai h7 (ai h8 (ai h7 (ai h9 (ai h7 (ai h7 (ai h7 (ai h10 (ai h11 (ai h7 (ai h12 (ai h7 (ai h13 (ai h14 (Eq.refl (Sum.inl ([Value.slice x1a x1n x1c, Value.slice x6a x6n x6c, Value.int .i64 x7, Value.int .i64 x8, Value.int .i64 x14, Value.int .i64 x15, Value.int .i64 x21, Value.int .i64 (x22 + 1)], H) : LS ⊕ LO)))))))))))))))))))))))) (by kernel_rfl)
theorem f36_L1_2 {x1a : Option Addr} {x1n x1c : Nat} {x6a : Option Addr} {x6n x6c : Nat} {x7 x8 x14 x15 x21 x22 : Int} {H0 : AHeap} {prot : Nat} {H : AHeap} {x27p x27o x27l x28p x28o x28l : Nat} {x32 : Bool} (h1 : x22 < x21) (h2 : aindexAddr cfg.P 65 (Value.slice x1a x1n x1c) (Value.int .i64 x8) = some (Value.pointer (some ⟨x27p, x27o, some x27l⟩))) (h3 : getCells H x27p x27l x27o 1 = some [Value.pointer (some ⟨x28p, x28o, some x28l⟩)]) (h4 : 0 ≤ x22) (h5 : x22 < (↑512 : Int)) (h6 : getCells H x28p x28l (x28o + x22.toNat * 1) 1 = some [Value.bool x32]) (h7 : x32 = false) (h8 : Fit .i64 (x22 + 1)) : lpOf cfg a36 1 prot H0 ([.slice x1a x1n x1c, .slice x6a x6n x6c, .int .i64 x7, .int .i64 x8, .int .i64 x14, .int .i64 x15, .int .i64 x21, .int .i64 x22], H) = some (Sum.inl ([Value.slice x1a x1n x1c, Value.slice x6a x6n x6c, Value.int .i64 x7, Value.int .i64 x8, Value.int .i64 x14, Value.int .i64 x15, Value.int .i64 x21, Value.int .i64 (x22 + 1)], H)) :=
  lp_of2 [.e, .b true, .v (.pointer (some ⟨x27p, x27o, some x27l⟩)), .v (.pointer (some ⟨x28p, x28o, some x28l⟩)), .e, .v (.bool x32), .b false, .b false, .b false, .b false, .b false, .b false, .b false, .b false, .b false, .b false, .e] (ai (decide_eq_true h1) (ai h2 (ai h3 (ai h4 (ai h5 (ai h6 (ai h7 (ai h7 (ai h7 (ai h7 (ai h7 (ai h7 (ai h7 (ai h7 (ai h7 (ai (Eq.refl false) (ai h8 (Eq.refl (Sum.inl ([Value.slice x1a x1n x1c, Value.slice x6a x6n x6c, Value.int .i64 x7, Value.int .i64 x8, Value.int .i64 x14, Value.int .i64 x15, Value.int .i64 x21, Value.int .i64 (x22 + 1)], H) : LS ⊕ LO))))))))))))))))))) (by kernel_rfl)
theorem f36_L1_3 {x1a : Option Addr} {x1n x1c : Nat} {x6a : Option Addr} {x6n x6c : Nat} {x7 x8 x14 x15 x21 x22 : Int} {H0 : AHeap} {prot : Nat} {H : AHeap} (h1 : ¬(x22 < x21)) : lpOf cfg a36 1 prot H0 ([.slice x1a x1n x1c, .slice x6a x6n x6c, .int .i64 x7, .int .i64 x8, .int .i64 x14, .int .i64 x15, .int .i64 x21, .int .i64 x22], H) = some (Sum.inr (Ex.exit 2, [Value.slice x1a x1n x1c, Value.slice x6a x6n x6c, Value.int .i64 x7, Value.int .i64 x8, Value.int .i64 x14, Value.int .i64 x15], H)) :=
  lp_of2 [.e, .b false] (ai (decide_eq_false h1) (Eq.refl (Sum.inr (Ex.exit 2, [Value.slice x1a x1n x1c, Value.slice x6a x6n x6c, Value.int .i64 x7, Value.int .i64 x8, Value.int .i64 x14, Value.int .i64 x15], H) : LS ⊕ LO))) (by kernel_rfl)
end Go.Proofs.Ytkemihfaohkoeaa.Am11
set_option linter.unusedVariables false
open Go Go.Proofs.Ytkemihfaohkoeaa.Am
namespace Go.Proofs.Ytkemihfaohkoeaa.Am11
theorem f18_F_0 {x0a : Option Addr} {x0n x0c : Nat} {H : AHeap} {prot : Nat} {x9 : Int} (h1 : callInf cfg 25 [Value.slice x0a x0n x0c] (List.length H) H = some (Value.int .i64 x9, H)) (h2 : (x9 != 0) = true) : callInf cfg 18 [.slice x0a x0n x0c] prot H = some (Value.tuple { toList := [Value.slice none 0 0, Value.int .i64 0, Value.int .i64 x9] }, H) :=
  fn_of2 a18 [.v (.int .i64 x9), .e, .b true] (ai h1 (ai h2 (Eq.refl ((Value.tuple { toList := [Value.slice none 0 0, Value.int .i64 0, Value.int .i64 x9] }, H) : Value × AHeap)))) (by kernel_rfl) rfl
theorem f18_F_1 {x0a : Option Addr} {x0n x0c : Nat} {H : AHeap} {prot : Nat} {x9 : Int} {x16a : Option Addr} {x16n x16c : Nat} {H1 : AHeap} {x17aa : Option Addr} {x17an x17ac : Nat} {x17b : Int} {H2 : AHeap} (rv : Value) (rH : AHeap) (h1 : callInf cfg 25 [Value.slice x0a x0n x0c] (List.length H) H = some (Value.int .i64 x9, H)) (h2 : (x9 != 0) = false) (h3 : callInf cfg 37 [Value.slice x0a x0n x0c] (List.length H) H = some (Value.slice x16a x16n x16c, H1)) (h4 : callInf cfg 36 [Value.slice x0a x0n x0c, Value.slice x16a x16n x16c] (List.length H) H1 = some (Value.tuple { toList := [Value.slice x17aa x17an x17ac, Value.int .i64 x17b] }, H2)) (h5 : pfin a18 H [Value.slice x17aa x17an x17ac, Value.int .i64 x17b, Value.int .i64 0] H2 = (rv, rH)) : callInf cfg 18 [.slice x0a x0n x0c] prot H = some (rv, rH) :=
  fn_of2 a18 [.v (.int .i64 x9), .e, .b false, .r (.slice x16a x16n x16c) H1, .r (.tuple #[.slice x17aa x17an x17ac, .int .i64 x17b]) H2] (ai h1 (ai h2 (ai h3 (ai h4 h5)))) (by kernel_rfl) rfl
end Go.Proofs.Ytkemihfaohkoeaa.Am11
namespace Go.Proofs.Ytkemihfaohkoeaa.Am11
open Go Go.Proofs.Ytkemihfaohkoeaa.Am
theorem T65 : ElemT cfg.P 65 68 1 8 := ⟨by kernel_rfl, by kernel_rfl, by kernel_rfl, ⟨.pointer none, by kernel_rfl, rfl⟩, by kernel_rfl, by omega, by omega⟩
def ptl (ps : List Nat) : List Value := ps.map fun (p : Nat) => .pointer (some ⟨p, 0, some 512⟩)
/-- The marks of the first vertices. -/
structure Mk (G : List (List Int)) (H : AHeap) (v p : Nat) : Prop where
  ex : ∃ M, H[p]? = some (.cells (bll M) 77 512 .var) ∧ M.length = 512 ∧ ∀ u, at_ M u = true ↔ Rch G v u
theorem Mk.stay {G : List (List Int)} {H H' : AHeap} {v p : Nat} (h : Mk G H v p) {o : Option Nat} (s : Stay o H H') (hne : o ≠ some p) : Mk G H' v p := by
  obtain ⟨M, h1, h2, h3⟩ := h.ex
  exact ⟨M, by rw [s.2 p (List.getElem?_eq_some_iff.1 h1).1 hne]; exact h1, h2, h3⟩
theorem Mk.lt {G : List (List Int)} {H : AHeap} {v p : Nat} (h : Mk G H v p) : p < H.length := by
  obtain ⟨M, h1, _⟩ := h.ex
  exact (List.getElem?_eq_some_iff.1 h1).1
theorem gc_not {H H1 : AHeap} {e s n id : Nat} {x : Value} {cs : List Value} (h : Own H1 e s x (some id) n cs) (hp : cs.all plain0 = false) : gc H [x] H1 = (x, H1) := by
  obtain ⟨hl, hn, rfl, wr, hwr, hH⟩ := h
  unfold gc
  have hnd : noDup (sliceIds [.slice (some ⟨id, 0, some cs.length⟩) n n]) = true := rfl
  rw [if_pos hnd]
  have : keepAll H.length H1 [.slice (some ⟨id, 0, some cs.length⟩) n n] [] = none := by
    simp only [keepAll, keep1]
    split
    · rfl
    · rw [hH]
      simp [hp]
  rw [this]
  rfl

theorem loop37 {G : List (List Int)} (hG : Good G) {H0 : AHeap} {vG : Value} (hg : Gr H0 vG G) {prot : Nat} : ∀ (d i : Nat) (x : Value) (o : Option Nat) (ps : List Nat) (H : AHeap), i + d = G.length → Stay none H0 H → Own H 68 1 x o i (ptl ps) → ps.length = i → (∀ id, o = some id → H0.length ≤ id) → (∀ (j p : Nat), ps[j]? = some p → Mk G H j p ∧ o ≠ some p ∧ H0.length ≤ p) →
    ∃ x' o' ps' H', lpInf (lpOf cfg a37 0 prot H0) ([vG, x, .int .i64 G.length, .int .i64 i], H) = some (.exit 0, [x'], H') ∧ Stay none H0 H' ∧ Own H' 68 1 x' o' G.length (ptl ps') ∧ ps'.length = G.length ∧ (∀ id, o' = some id → H0.length ≤ id) ∧ (∀ (j p : Nat), ps'[j]? = some p → Mk G H' j p ∧ o' ≠ some p ∧ H0.length ≤ p)
  | 0, i, x, o, ps, H, hi, hst, hx, hl, ho, hm => by
    have he : i = G.length := by omega
    subst he
    obtain ⟨_, _, hge⟩ := hg.len
    have hx0 := hx
    obtain ⟨_, _, rfl⟩ := hx.len
    subst hge
    exact ⟨_, o, ps, H, lp_last (f37_L0_1 (by omega)), hst, hx0, hl, ho, hm⟩
  | d + 1, i, x, o, ps, H, hi, hst, hx, hl, ho, hm => by
    have hn := hG.1
    obtain ⟨pm, M, H2, c1, c2, c3, c4, c5, c6⟩ := c39 hG H0.length (hg.stay hst) (show i < G.length by omega)
    have hx2 := hx.stay c5 (fun _ _ h => by cases h)
    have l2 := c5.1
    have hpm := (List.getElem?_eq_some_iff.1 c2).1
    have h0 := hst.1
    obtain ⟨a', c', o', H3, q1, q2, q3, q4, q5, q6⟩ := own_app T65 hx2 (ecs := [.pointer (some ⟨pm, 0, some 512⟩)]) rfl rfl (prot := H0.length) (room := true) ho (by omega) (by omega) (L := 1 * 1) rfl (el := [Value.pointer (some ⟨pm, 0, some 512⟩)].length) rfl
    have hol : ∀ id, o = some id → id < H.length := fun id h => by
      rw [h] at hx
      exact (List.getElem?_eq_some_iff.1 hx.2.2.2.choose_spec.2).1
    have hne : o ≠ some pm := fun h => by have := hol pm h; omega
    have ho'pm : o' ≠ pm := by
      cases hh : o with
      | none => have := q5 hh; omega
      | some j => have := q6 j hh; have := hol j hh; omega
    have e1 : ptl ps ++ [.pointer (some ⟨pm, 0, some 512⟩)] = ptl (ps ++ [pm]) := by simp [ptl]
    rw [e1] at q2
    have hst3 : Stay none H0 H3 := (hst.trans c5).over q3 ho
    obtain ⟨x', o2, ps', H', z1, z2, z3, z4, z5, z6⟩ := loop37 hG hg (prot := prot) d (i + 1) _ (some o') (ps ++ [pm]) H3 (by omega) hst3 q2 (by simp [hl]) (fun id h => by cases h; exact q4) (fun j p hj => by
      by_cases hjl : j < ps.length
      · rw [List.getElem?_append_left hjl] at hj
        obtain ⟨m1, m2, m3⟩ := hm j p hj
        refine ⟨(m1.stay c5 (by simp)).stay q3 m2, fun h => ?_, m3⟩
        have h := Option.some.inj h
        have := m1.lt
        cases hh : o with
        | none => have := q5 hh; omega
        | some k => have := q6 k hh; exact m2 (by rw [hh, ← this, h])
      · rw [List.getElem?_append_right (by omega)] at hj
        cases hk : j - ps.length with
        | zero =>
          rw [hk] at hj
          have hj : pm = p := by simpa using hj
          subst hj
          have hjv : j = i := by omega
          subst hjv
          exact ⟨(⟨M, c2, c3, c4⟩ : Mk G H2 j pm).stay q3 hne, fun h => ho'pm (Option.some.inj h), by omega⟩
        | succ k => rw [hk] at hj; simp at hj)
    refine ⟨x', o2, ps', H', ?_, z2, z3, z4, z5, z6⟩
    obtain ⟨_, _, hge⟩ := hg.len
    obtain ⟨_, _, rfl⟩ := hx.len
    subst hge
    exact lp_next (f37_L0_0 (by omega) c1 q1 (fit64 (by omega) (by omega))) z1

/-- The list of marks, one for each vertex. -/
structure WL (G : List (List Int)) (H : AHeap) (x : Value) : Prop where
  ex : ∃ ps : List Nat, Rd H 68 1 x G.length (ptl ps) ∧ ps.length = G.length ∧ ∀ (j p : Nat), ps[j]? = some p → Mk G H j p
theorem WL.stay {G : List (List Int)} {H H' : AHeap} {x : Value} (h : WL G H x) (s : Stay none H H') : WL G H' x := by
  obtain ⟨ps, h1, h2, h3⟩ := h.ex
  exact ⟨ps, h1.stay s, h2, fun j p hj => (h3 j p hj).stay s (by simp)⟩
theorem c37 {G : List (List Int)} (hG : Good G) {vG : Value} (prot : Nat) {H : AHeap} (hg : Gr H vG G) : ∃ a c H', callInf cfg 37 [vG] prot H = some (.slice a G.length c, H') ∧ WL G H' (.slice a G.length c) ∧ Stay none H H' := by
  obtain ⟨x', o', ps', H', z1, z2, z3, z4, z5, z6⟩ := loop37 hG hg (prot := prot) G.length 0 (.slice none 0 0) none [] H (by omega) (Stay.refl _ _) own_nil rfl (fun id h => by cases h) (fun j p hj => by simp at hj)
  obtain ⟨aG, cG, rfl⟩ := hg.len
  have hz3 := z3
  obtain ⟨ax, cx, rfl⟩ := z3.len
  cases ho : o' with
  | none =>
    rw [ho] at hz3
    have h0 : G.length = 0 := hz3.2.1
    rcases hz3.2.2 with hx | hx
    · have : pfin a37 H [.slice ax G.length cx] H' = (.slice ax G.length cx, H) := by
        rw [pfin_eq, if_neg (by simp [a37]), hx]
        exact gc_plain rfl
      refine ⟨ax, cx, H, f37_F_0 _ _ z1 this, ⟨[], ⟨by rw [h0]; rfl, .inl ⟨h0, .inl hx⟩⟩, by simp [h0], fun j p hj => by simp at hj⟩, Stay.refl _ _⟩
    · have : pfin a37 H [.slice ax G.length cx] H' = (.slice ax G.length cx, H) := by
        rw [pfin_eq, if_neg (by simp [a37]), hx]
        rfl
      refine ⟨ax, cx, H, f37_F_0 _ _ z1 this, ⟨[], ⟨by rw [h0]; rfl, .inl ⟨h0, .inr hx⟩⟩, by simp [h0], fun j p hj => by simp at hj⟩, Stay.refl _ _⟩
  | some id =>
    rw [ho] at hz3
    have hpos : 0 < G.length := hz3.2.1
    have hnp : (ptl ps').all plain0 = false := by
      rw [List.all_eq_false]
      cases ps' with
      | nil => simp at z4; omega
      | cons p ps => exact ⟨.pointer (some ⟨p, 0, some 512⟩), by simp [ptl], by simp [plain0]⟩
    have : pfin a37 H [.slice ax G.length cx] H' = (.slice ax G.length cx, H') := by
      rw [pfin_eq, if_neg (by simp [a37])]
      exact gc_not hz3 hnp
    exact ⟨ax, cx, H', f37_F_0 _ _ z1 this, ⟨ps', z3.rd, z4, fun j p hj => (z6 j p hj).1⟩, z2⟩
theorem WL.at {G : List (List Int)} {H : AHeap} {x : Value} (h : WL G H x) {v u : Nat} (hv : v < G.length) (hu : u < 512) :
    ∃ id L p b, aindexAddr cfg.P 65 x (.int .i64 v) = some (.pointer (some ⟨id, v, some L⟩)) ∧ getCells H id L v 1 = some [.pointer (some ⟨p, 0, some 512⟩)] ∧ getCells H p 512 (0 + u * 1) 1 = some [.bool b] ∧ (b = true ↔ Rch G v u) := by
  obtain ⟨ps, h1, h2, h3⟩ := h.ex
  have hp : ps[v]? = some ps[v] := List.getElem?_eq_getElem (by omega)
  obtain ⟨id, L, a, b⟩ := rd_at T65 h1 (show (ptl ps)[v]? = some (.pointer (some ⟨ps[v], 0, some 512⟩)) by unfold ptl; rw [List.getElem?_map, hp]; rfl)
  obtain ⟨M, m1, m2, m3⟩ := (h3 v _ hp).ex
  exact ⟨id, L, ps[v], at_ M u, a, b, arr_get m1 (by simp [bll, m2]) (at_get (by omega)), m3 u⟩
end Go.Proofs.Ytkemihfaohkoeaa.Am11
namespace Go.Proofs.Ytkemihfaohkoeaa.Am11
open Go Go.Proofs.Ytkemihfaohkoeaa.Am
/-- Does each one reach the other? -/
noncomputable def mu (G : List (List Int)) (v u : Nat) : Bool := @decide (Rch G v u ∧ Rch G u v) (Classical.propDecidable _)
theorem mu_iff {G : List (List Int)} {v u : Nat} : mu G v u = true ↔ Rch G v u ∧ Rch G u v := by unfold mu; exact @decide_eq_true_iff _ (Classical.propDecidable _)
def findM (p : Nat → Bool) : Nat → Nat → Option Nat
  | 0, _ => none
  | d + 1, u => if p u then some u else findM p d (u + 1)
theorem findM_some {p : Nat → Bool} : ∀ {d u w : Nat}, findM p d u = some w → u ≤ w ∧ w < u + d ∧ p w = true
  | 0, _, _, h => by cases h
  | d + 1, u, w, h => by
    rw [findM] at h
    split at h
    · cases h; rename_i hp; exact ⟨Nat.le_refl _, by omega, hp⟩
    · obtain ⟨a, b, c⟩ := findM_some h; exact ⟨by omega, by omega, c⟩
theorem findM_none {p : Nat → Bool} : ∀ {d u : Nat}, findM p d u = none → ∀ w, u ≤ w → w < u + d → p w = false
  | 0, _, _, w, h1, h2 => by omega
  | d + 1, u, h, w, h1, h2 => by
    rw [findM] at h
    split at h
    · cases h
    · rename_i hp
      by_cases e : w = u
      · subst e; simpa using hp
      · exact findM_none h w (by omega) (by omega)
/-- The numbers of the components. -/
noncomputable def numR (G : List (List Int)) : Nat → Nat → List Nat → Nat → List Nat × Nat
  | 0, _, out, n => (out, n)
  | d + 1, v, out, n => match findM (mu G v) v 0 with
    | some u => numR G d (v + 1) (out ++ [out.getD u 0]) n
    | none => numR G d (v + 1) (out ++ [n]) (n + 1)
noncomputable def comp (G : List (List Int)) : List Nat × Nat := numR G G.length 0 [] 0
def nl (l : List Nat) : List Int := l.map fun (x : Nat) => (x : Int)
def pad (N : Nat) (l : List Int) : List Int := l ++ List.replicate (N - l.length) 0
theorem pad_len {N : Nat} {l : List Int} (h : l.length ≤ N) : (pad N l).length = N := by unfold pad; simp; omega
theorem pad_set {N : Nat} {l : List Int} {x : Int} (h : l.length < N) : (pad N l).set l.length x = pad N (l ++ [x]) := by
  unfold pad
  rw [List.set_append_right _ _ (Nat.le_refl _), Nat.sub_self, show N - l.length = (N - (l ++ [x]).length) + 1 by simp; omega, List.replicate_succ, List.set_cons_zero]
  simp
theorem pad_set2 {N : Nat} {l : List Int} {x y : Int} : (pad N (l ++ [x])).set l.length y = pad N (l ++ [y]) := by
  unfold pad
  rw [List.append_assoc, List.set_append_right _ _ (Nat.le_refl _), Nat.sub_self, List.append_assoc]
  simp
theorem pad_get {N : Nat} {l : List Int} {u : Nat} (h : u < l.length) : (pad N l).getD u 0 = l.getD u 0 := by
  unfold pad
  rw [List.getD_eq_getElem?_getD, List.getElem?_append_left h, ← List.getD_eq_getElem?_getD]
theorem put_il (l : List Int) {i : Nat} (hi : i < l.length) (c : Int) : putList (il l) (i * 1 + 0) [.int .i64 c] = il (l.set i c) := put_map (Value.int .i64) l hi c

theorem loop36i {G : List (List Int)} (hG : Good G) {G0 : AHeap} {x1 : Value} (hw : WL G G0 x1) {o6 : Nat} (ho : G0.length ≤ o6) {H0 : AHeap} (hp : H0.length ≤ o6) {prot : Nat} {x6 : Value} {n : Int} {v : Nat} (hv : v < G.length) {D : List Int} (hD : D.length = G.length) (hx1 : ∃ a c, x1 = .slice a G.length c) : ∀ (d u : Nat) (H : AHeap), u + d = v → Stay none G0 H → Own H 3 1 x6 (some o6) G.length (il D) →
    ∃ H', lpInf (lpOf cfg a36 1 prot H0) ([x1, x6, .int .i64 n, .int .i64 v, .int .i64 G.length, .int .i64 v, .int .i64 v, .int .i64 u], H) = some (.exit 2, [x1, x6, .int .i64 n, .int .i64 v, .int .i64 G.length, .int .i64 v], H') ∧
      Own H' 3 1 x6 (some o6) G.length (il (match findM (mu G v) d u with | some w => D.set v (D.getD w 0) | none => D)) ∧ Stay (some o6) H H'
  | 0, u, H, hu, hst, hx => by
    obtain ⟨_, _, rfl⟩ := hx1
    have hx0 := hx
    obtain ⟨_, _, rfl⟩ := hx.len
    exact ⟨H, lp_last (f36_L1_3 (by omega)), hx0, Stay.refl _ _⟩
  | d + 1, u, H, hu, hst, hx => by
    have hn := hG.1
    obtain ⟨i1, L1, p1, b1, a1, a2, a3, a4⟩ := (hw.stay hst).at hv (show u < 512 by omega)
    obtain ⟨i2, L2, p2, b2, c1, c2, c3, c4⟩ := (hw.stay hst).at (show u < G.length by omega) (show v < 512 by omega)
    have fi : Fit .i64 ((u : Int) + 1) := fit64 (by omega) (by omega)
    obtain ⟨ax, cx, rfl⟩ := hx1
    rw [findM]
    by_cases hm : mu G v u = true
    · rw [if_pos hm]
      obtain ⟨m1, m2⟩ := mu_iff.1 hm
      have hb1 := a4.2 m1
      have hb2 := c4.2 m2
      subst hb1; subst hb2
      obtain ⟨_, e1, q1, q2⟩ := own_at T34 hx (show (il D)[u]? = some (.int .i64 (D.getD u 0)) by rw [il_get (by omega), List.getD_eq_getElem?_getD, List.getElem?_eq_getElem (by omega)]; rfl)
      cases e1
      obtain ⟨_, H2, e2, s1, s2, s3, s4, s5⟩ := own_setS T34 hx (i := v) (j := 0) hv (vs := [.int .i64 (D.getD u 0)]) (by simp) rfl (prot := H0.length) (fun id h => by cases h; exact hp)
      cases e2
      rw [put_il D (by omega)] at s3
      obtain ⟨_, _, rfl⟩ := hx.len
      exact ⟨H2, lp_last (f36_L1_0 (by omega) a1 a2 (by omega) (by omega) a3 rfl c1 c2 (by omega) (by omega) c3 rfl q1 q2 s1 rfl s2), s3, s4⟩
    · rw [if_neg hm]
      obtain ⟨H', z1, z2, z3⟩ := loop36i hG hw ho hp (prot := prot) (n := n) hv hD ⟨ax, cx, rfl⟩ d (u + 1) H (by omega) hst hx
      refine ⟨H', ?_, z2, z3⟩
      obtain ⟨_, _, rfl⟩ := hx.len
      cases b1 with
      | true =>
        cases b2 with
        | true => exact absurd (mu_iff.2 ⟨a4.1 rfl, c4.1 rfl⟩) hm
        | false => exact lp_next (f36_L1_1 (by omega) a1 a2 (by omega) (by omega) a3 rfl c1 c2 (by omega) (by omega) c3 rfl fi) z1
      | false => exact lp_next (f36_L1_2 (by omega) a1 a2 (by omega) (by omega) a3 rfl fi) z1

theorem loop36o {G : List (List Int)} (hG : Good G) {G0 : AHeap} {x1 : Value} (hw : WL G G0 x1) {o6 : Nat} (ho : G0.length ≤ o6) {H0 : AHeap} (hp : H0.length ≤ o6) {prot : Nat} {x6 : Value} (hx1 : ∃ a c, x1 = .slice a G.length c) : ∀ (d v : Nat) (out : List Nat) (n : Nat) (H : AHeap), v + d = G.length → out.length = v → n ≤ v → (∀ x ∈ out, x < 512) → Stay none G0 H → Own H 3 1 x6 (some o6) G.length (il (pad G.length (nl out))) →
    ∃ H', lpInf (lpOf cfg a36 0 prot H0) ([x1, x6, .int .i64 n, .int .i64 G.length, .int .i64 v], H) = some (.exit 0, [x6, .int .i64 (numR G d v out n).2], H') ∧ Own H' 3 1 x6 (some o6) G.length (il (nl (numR G d v out n).1)) ∧ (numR G d v out n).1.length = G.length ∧ Stay (some o6) H H'
  | 0, v, out, n, H, hv, hl, hn, h512, hst, hx => by
    have he : pad G.length (nl out) = nl out := by unfold pad; rw [show G.length - (nl out).length = 0 by simp [nl]; omega]; simp
    rw [he] at hx
    obtain ⟨_, _, rfl⟩ := hx1
    have hx0 := hx
    obtain ⟨_, _, rfl⟩ := hx.len
    exact ⟨H, lp_last (f36_L0_2 (by omega)), hx0, by show out.length = G.length; omega, Stay.refl _ _⟩
  | d + 1, v, out, n, H, hv, hl, hn, h512, hst, hx => by
    have h5 := hG.1
    have hnl : (nl out).length = v := by simp [nl, hl]
    have hvl : v < G.length := by omega
    obtain ⟨_, H2, e2, s1, s2, s3, s4, s5⟩ := own_setS T34 hx (i := v) (j := 0) hvl (vs := [.int .i64 (-1)]) (by simp) rfl (prot := H0.length) (fun id h => by cases h; exact hp)
    cases e2
    rw [put_il _ (by rw [pad_len (by omega)]; exact hvl), show v = (nl out).length from hnl.symm, pad_set (by omega)] at s3
    have hst2 : Stay none G0 H2 := hst.over s4 (fun id h => by cases h; exact ho)
    have hDl : (pad G.length (nl out ++ [-1])).length = G.length := pad_len (by simp; omega)
    obtain ⟨H3, u1, u2, u3⟩ := loop36i hG hw ho hp (prot := prot) (n := (n : Int)) hvl hDl hx1 v 0 H2 (by omega) hst2 s3
    have hst3 : Stay none G0 H3 := hst2.over u3 (fun id h => by cases h; exact ho)
    obtain ⟨ax, cx, hxe⟩ := hx1
    have hx6 := hx.len
    rw [numR]
    cases hf : findM (mu G v) v 0 with
    | some u =>
      rw [hf] at u2
      obtain ⟨_, hu, _⟩ := findM_some hf
      have hget : (pad G.length (nl out ++ [-1])).getD u 0 = ((out.getD u 0 : Nat) : Int) := by
        rw [pad_get (by simp; omega), List.getD_eq_getElem?_getD, List.getElem?_append_left (by omega)]
        unfold nl
        rw [List.getElem?_map, List.getD_eq_getElem?_getD, List.getElem?_eq_getElem (by omega)]
        rfl
      simp only at u2
      rw [hget, show v = (nl out).length from hnl.symm, pad_set2] at u2
      have hnl2 : nl out ++ [((out.getD u 0 : Nat) : Int)] = nl (out ++ [out.getD u 0]) := by simp [nl]
      rw [hnl2] at u2
      have hval : out.getD u 0 < 512 := by
        rw [List.getD_eq_getElem?_getD, List.getElem?_eq_getElem (by omega)]
        exact h512 _ (List.getElem_mem _)
      obtain ⟨H', z1, z2, z3, z4⟩ := loop36o hG hw ho hp (prot := prot) ⟨ax, cx, hxe⟩ d (v + 1) (out ++ [out.getD u 0]) n H3 (by omega) (by simp [hl]) (by omega) (fun x hx => by
        rw [List.mem_append, List.mem_singleton] at hx
        rcases hx with hx | rfl
        · exact h512 x hx
        · exact hval) hst3 u2
      have hrow : (il (pad G.length (nl (out ++ [out.getD u 0]))))[v]? = some (.int .i64 ((out.getD u 0 : Nat) : Int)) := by
        unfold il pad
        rw [List.getElem?_map, List.getElem?_append_left (by simp [nl]; omega)]
        unfold nl
        rw [List.map_append, List.getElem?_append_right (by simp; omega)]
        simp [hl]
      obtain ⟨_, e3, q1, q2⟩ := own_at T34 u2 hrow
      cases e3
      refine ⟨H', ?_, z2, z3, (s4.trans u3).trans z4⟩
      obtain ⟨a6, c6, rfl⟩ := hx6
      subst hxe
      exact lp_next (f36_L0_1 (by omega) s1 rfl s2 u1 q1 q2 (by omega) (fit64 (by omega) (by omega))) z1
    | none =>
      rw [hf] at u2
      simp only at u2
      have hrow : (il (pad G.length (nl out ++ [-1])))[v]? = some (.int .i64 (-1)) := by
        unfold il pad
        rw [List.getElem?_map, List.getElem?_append_left (by simp; omega), List.getElem?_append_right (by omega), hnl, Nat.sub_self]
        rfl
      obtain ⟨_, e3, q1, q2⟩ := own_at T34 u2 hrow
      cases e3
      obtain ⟨_, H4, e4, t1, t2, t3, t4, t5⟩ := own_setS T34 u2 (i := v) (j := 0) hvl (vs := [.int .i64 (n : Int)]) (by simp) rfl (prot := H0.length) (fun id h => by cases h; exact hp)
      cases e4
      rw [put_il _ (by rw [hDl]; exact hvl)] at t3
      rw [show v = (nl out).length from hnl.symm, pad_set2] at t3
      have hnl2 : nl out ++ [((n : Nat) : Int)] = nl (out ++ [n]) := by simp [nl]
      rw [hnl2] at t3
      obtain ⟨H', z1, z2, z3, z4⟩ := loop36o hG hw ho hp (prot := prot) ⟨ax, cx, hxe⟩ d (v + 1) (out ++ [n]) (n + 1) H4 (by omega) (by simp [hl]) (by omega) (fun x hx => by
        rw [List.mem_append, List.mem_singleton] at hx
        rcases hx with hx | rfl
        · exact h512 x hx
        · omega) (hst3.over t4 (fun id h => by cases h; exact ho)) t3
      refine ⟨H', ?_, z2, z3, ((s4.trans u3).trans t4).trans z4⟩
      obtain ⟨a6, c6, rfl⟩ := hx6
      subst hxe
      exact lp_next (f36_L0_0 (by omega) s1 rfl s2 u1 q1 q2 (by omega) t1 rfl t2 (fit64 (by omega) (by omega)) (fit64 (by omega) (by omega))) z1
end Go.Proofs.Ytkemihfaohkoeaa.Am11
namespace Go.Proofs.Ytkemihfaohkoeaa.Am
open Go
/-- A row of one's own, it may be empty. -/
def OwnE (H : AHeap) (e : Nat) (x : Value) (n : Nat) (cs : List Value) (b : Nat) : Prop :=
  (∃ o, Own H e 1 x o n cs ∧ ∀ id, o = some id → b ≤ id) ∨ (n = 0 ∧ cs = [] ∧ ∃ id, x = .slice (some ⟨id, 0, some 0⟩) 0 0 ∧ b ≤ id ∧ H[id]? = some (.cells [] e 0 .row))
theorem OwnE.rd {H : AHeap} {e n b : Nat} {x : Value} {cs : List Value} (h : OwnE H e x n cs b) : Rd H e 1 x n cs := by
  rcases h with ⟨o, h, _⟩ | ⟨rfl, rfl, id, rfl, _, h⟩
  · exact h.rd
  · exact ⟨rfl, .inr ⟨id, 0, 0, .row, 0, [], rfl, Nat.le_refl _, Nat.le_refl _, Nat.le_refl _, h, rfl⟩⟩
theorem OwnE.stay {H H' : AHeap} {e n b : Nat} {x : Value} {cs : List Value} (h : OwnE H e x n cs b) (s : Stay none H H') : OwnE H' e x n cs b := by
  rcases h with ⟨o, h, h2⟩ | ⟨rfl, rfl, id, rfl, h1, h⟩
  · exact .inl ⟨o, h.stay s (fun _ _ h => by cases h), h2⟩
  · exact .inr ⟨rfl, rfl, id, rfl, h1, by rw [s.2 id (List.getElem?_eq_some_iff.1 h).1 (by simp)]; exact h⟩
theorem OwnE.weak {H : AHeap} {e n b c : Nat} {x : Value} {cs : List Value} (h : OwnE H e x n cs b) (hc : c ≤ b) : OwnE H e x n cs c := by
  rcases h with ⟨o, h, h2⟩ | ⟨a1, a2, id, a3, h1, h⟩
  · exact .inl ⟨o, h, fun id e => Nat.le_trans hc (h2 id e)⟩
  · exact .inr ⟨a1, a2, id, a3, Nat.le_trans hc h1, h⟩
/-- It is handed back. -/
theorem gcE {H H1 : AHeap} {e n : Nat} {x : Value} {cs : List Value} (h : OwnE H1 e x n cs H.length) (hp : cs.all plain0 = true) {ps : List Value} (hps : ps.all plain1 = true) :
    ∃ x' H', gc H (x :: ps) H1 = (tupled (x' :: ps), H') ∧ OwnE H' e x' n cs H.length ∧ Stay none H H' := by
  rcases h with ⟨o, h, h2⟩ | ⟨rfl, rfl, id, rfl, h1, h⟩
  · obtain ⟨x', o', H', g1, g2, g3, g4, _⟩ := gc_row h h2 hp hps
    exact ⟨x', H', g1, .inl ⟨o', g2, g4⟩, g3⟩
  · refine ⟨.slice (some ⟨H.length, 0, some 0⟩) 0 0, H ++ [.cells [] e 0 .row], ?_, .inr ⟨rfl, rfl, H.length, rfl, Nat.le_refl _, append_get.1⟩, Stay.app none H _⟩
    unfold gc
    simp only [gcHeap]
    simp only [sliceIds, sliceIds_plain ps hps, noDup, List.contains_nil, Bool.not_false, Bool.and_self, if_true, keepAll, keep1]
    rw [if_neg (by omega), h]
    simp only
    rw [if_pos ⟨rfl, by simp⟩, Option.bind_some, keepAll_plain ps _ hps]
    simp
theorem own_mk {e n : Nat} (hn : 0 < n) (H : AHeap) (c : Value) : Own (H ++ [.cells (repCells [c] n) e (repCells [c] n).length .row]) e 1 (.slice (some ⟨H.length, 0, some (n * 1)⟩) n n) (some H.length) n (List.replicate n c) := by
  have e1 : repCells [c] n = List.replicate n c := by
    have := rep_map (fun _ : Nat => c) 0 n
    rw [this, List.map_replicate]
  rw [e1]
  exact own_new (by simp) hn (by simp) rfl
end Go.Proofs.Ytkemihfaohkoeaa.Am
namespace Go.Proofs.Ytkemihfaohkoeaa.Am11
open Go Go.Proofs.Ytkemihfaohkoeaa.Am
theorem c36 {G : List (List Int)} (hG : Good G) {vG x1 : Value} (prot : Nat) {H : AHeap} (hg : Gr H vG G) (hw : WL G H x1) (hx1 : ∃ a c, x1 = .slice a G.length c) :
    ∃ x' H', callInf cfg 36 [vG, x1] prot H = some (.tuple #[x', .int .i64 (comp G).2], H') ∧ OwnE H' 3 x' G.length (il (nl (comp G).1)) H.length ∧ (comp G).1.length = G.length ∧ Stay none H H' := by
  have h5 := hG.1
  obtain ⟨aG, cG, rfl⟩ := hg.len
  by_cases h0 : 0 < G.length
  · obtain ⟨HA, hHA⟩ : ∃ HA, HA = H ++ [AObj.cells (repCells [.int .i64 0] G.length) 3 (repCells [.int .i64 0] G.length).length .row] := ⟨_, rfl⟩
    have sA : Stay none H HA := by rw [hHA]; exact Stay.app none H _
    have m : Own HA 3 1 (.slice (some ⟨H.length, 0, some (G.length * 1)⟩) G.length G.length) (some H.length) G.length (il (pad G.length (nl []))) := by
      rw [hHA]
      have := own_mk (e := 3) h0 H (.int .i64 0)
      have e1 : il (pad G.length (nl [])) = List.replicate G.length (.int .i64 0) := by simp [il, pad, nl]
      rw [e1]
      exact this
    obtain ⟨H1, z1, z2, z3, z4⟩ := loop36o hG hw (Nat.le_refl _) (H0 := H) (Nat.le_refl _) (prot := prot) hx1 G.length 0 [] 0 HA (by omega) rfl (Nat.le_refl _) (fun x h => by cases h) sA m
    obtain ⟨x', o', H', g1, g2, g3, g4, _⟩ := gc_row (H := H) (ps := [.int .i64 ((comp G).2 : Nat)]) z2 (fun id h => by cases h; exact Nat.le_refl _) (il_plain _) rfl
    refine ⟨x', H', ?_, .inl ⟨o', g2, g4⟩, z3, g3⟩
    obtain ⟨ax, cx, rfl⟩ := hx1
    subst hHA
    exact f36_F_0 _ _ (by omega) rfl (by omega) (by omega) z1 (by rw [pfin_eq, if_neg (by simp [a36])]; exact g1)
  · have hn : G = [] := List.eq_nil_of_length_eq_zero (by omega)
    subst hn
    obtain ⟨ax, cx, rfl⟩ := hx1
    have hl : lpInf (lpOf cfg a36 0 prot H) ([.slice ax 0 cx, .slice (some ⟨H.length, 0, some (0 * 1)⟩) 0 0, .int .i64 0, .int .i64 ((0 : Nat) : Int), .int .i64 0], H ++ [AObj.cells (repCells [.int .i64 0] 0) 3 (repCells [.int .i64 0] 0).length .row]) = some (.exit 0, [.slice (some ⟨H.length, 0, some (0 * 1)⟩) 0 0, .int .i64 0], H ++ [AObj.cells (repCells [.int .i64 0] 0) 3 (repCells [.int .i64 0] 0).length .row]) :=
      lp_last (f36_L0_2 (by decide))
    have hE : OwnE (H ++ [AObj.cells (repCells [.int .i64 0] 0) 3 (repCells [.int .i64 0] 0).length .row]) 3 (.slice (some ⟨H.length, 0, some (0 * 1)⟩) 0 0) 0 [] H.length := .inr ⟨rfl, rfl, H.length, rfl, Nat.le_refl _, append_get.1⟩
    obtain ⟨x', H', g1, g2, g3⟩ := gcE (H := H) hE rfl (ps := [.int .i64 0]) rfl
    exact ⟨x', H', f36_F_0 _ _ (by omega) rfl (by omega) (by decide) hl (by rw [pfin_eq, if_neg (by simp [a36])]; exact g1), g2, rfl, g3⟩

theorem c18 {G : List (List Int)} (hs : Short G) {vG : Value} (prot : Nat) {H : AHeap} (hg : Gr H vG G) :
    (chk G ≠ 0 ∧ callInf cfg 18 [vG] prot H = some (.tuple #[.slice none 0 0, .int .i64 0, .int .i64 (chk G)], H)) ∨
    (chk G = 0 ∧ ∃ x' H', callInf cfg 18 [vG] prot H = some (.tuple #[x', .int .i64 (comp G).2, .int .i64 0], H') ∧ OwnE H' 3 x' G.length (il (nl (comp G).1)) H.length ∧ (comp G).1.length = G.length ∧ Stay none H H') := by
  have h25 := c25 hs H.length hg
  have hgl := hg.len
  by_cases h : chk G = 0
  · refine .inr ⟨h, ?_⟩
    have hG := good_of hs h
    obtain ⟨a, c, H1, w1, w2, w3⟩ := c37 hG H.length hg
    obtain ⟨y, H2, n1, n2, n3, n4⟩ := c36 hG H.length (hg.stay w3) w2 ⟨a, c, rfl⟩
    obtain ⟨x', H', g1, g2, g3⟩ := gcE (H := H) (n2.weak w3.1) (il_plain _) (ps := [.int .i64 ((comp G).2 : Nat), .int .i64 0]) rfl
    refine ⟨x', H', ?_, g2, n3, g3⟩
    obtain ⟨aG, cG, rfl⟩ := hgl
    obtain ⟨ay, cy, rfl⟩ := n2.rd.len
    exact f18_F_1 _ _ h25 (by simp [h]) w1 n1 (by rw [pfin_eq, if_neg (by simp [a18])]; exact g1)
  · refine .inl ⟨h, ?_⟩
    obtain ⟨aG, cG, rfl⟩ := hgl
    exact f18_F_0 h25 (by simpa using h)
end Go.Proofs.Ytkemihfaohkoeaa.Am11
set_option linter.unusedVariables false
open Go Go.Proofs.Ytkemihfaohkoeaa.Am
namespace Go.Proofs.Ytkemihfaohkoeaa.Am11
theorem f46_F_0 {x0 : Array Value} {x1 : Int} {H : AHeap} {prot x4p x4o x4l : Nat} {H1 : AHeap} {x7 : Bool} {x13 : Int} {H2 : AHeap} {x19 : Array Value} {H3 : AHeap} {w : Array Value} (rv : Value) (rH : AHeap) (h1 : x0.toList.all isCell = true) (h2 : aalloc cfg.P 39 (H ++ [AObj.cells x0.toList 39 x0.toList.length OMode.var]) = some (Value.pointer (some ⟨x4p, x4o, some x4l⟩), H1)) (h3 : callInf cfg 50 [Value.int .i64 x1] (List.length H) H1 = some (Value.bool x7, H1)) (h4 : (!x7) = false) (h5 : Fit .i64 (x1.tdiv 64)) (h6 : 0 ≤ x1.tdiv 64) (h7 : x1.tdiv 64 < (↑8 : Int)) (h8 : getCells H1 (List.length H) x0.toList.length (0 + (x1.tdiv 64).toNat * 1) 1 = some [Value.int .u64 x13]) (h9 : 0 ≤ x1.tmod 64) (h10 : [Value.int .u64 (IntKind.u64.wrap (↑(BitVec.ofInt IntKind.u64.bits x13 ||| BitVec.ofInt IntKind.u64.bits (IntKind.u64.wrap (1 * 2 ^ min (x1.tmod 64).toNat IntKind.u64.bits))).toNat : Int))].length = 1) (h11 : setCells H1 (List.length H) (List.length H) x0.toList.length (0 + (x1.tdiv 64).toNat * 1) [Value.int .u64 (IntKind.u64.wrap (↑(BitVec.ofInt IntKind.u64.bits x13 ||| BitVec.ofInt IntKind.u64.bits (IntKind.u64.wrap (1 * 2 ^ min (x1.tmod 64).toNat IntKind.u64.bits))).toNat : Int))] = some H2) (h12 : getCells H2 (List.length H) x0.toList.length 0 8 = some x19.toList) (h13 : x19.toList.length = 8) (h14 : setCells H2 (List.length H) x4p x4l x4o x19.toList = some H3) (h15 : getCells H3 x4p x4l x4o 8 = some w.toList) (h16 : pfin a46 H [Value.agg w, Value.int .i64 0] H3 = (rv, rH)) : callInf cfg 46 [.agg x0, .int .i64 x1] prot H = some (rv, rH) :=
  fn_of2 a46 [.e, .r (.pointer (some ⟨x4p, x4o, some x4l⟩)) H1, .v (.bool x7), .e, .b false, .e, .e, .v (.int .u64 x13), .e, .e, .e, .e, .h H2, .v (.agg x19), .h H3, .v (.agg w)] (ai h1 (ai h2 (ai h3 (ai h4 (ai (show (64 : Int) ≠ 0 by decide) (ai h5 (ai h6 (ai h7 (ai h8 (ai (show (64 : Int) ≠ 0 by decide) (ai h9 (ai h6 (ai h7 (ai h10 (ai h11 (ai h12 (ai h13 (ai h14 (ai h15 h16))))))))))))))))))) (by kernel_rfl) rfl
end Go.Proofs.Ytkemihfaohkoeaa.Am11
set_option linter.unusedVariables false
open Go Go.Proofs.Ytkemihfaohkoeaa.Am
namespace Go.Proofs.Ytkemihfaohkoeaa.Am11
theorem f50_F_0 {x0 : Int} {H : AHeap} {prot : Nat} (h1 : x0 ≥ 0) : callInf cfg 50 [.int .i64 x0] prot H = some (Value.bool (decide (x0 < 512)), H) :=
  fn_of2 a50 [.e, .b true, .b true, .e, .b true] (ai (decide_eq_true h1) (ai (decide_eq_true h1) (ai (decide_eq_true h1) (Eq.refl ((Value.bool (decide (x0 < 512)), H) : Value × AHeap))))) (by kernel_rfl) rfl
end Go.Proofs.Ytkemihfaohkoeaa.Am11
set_option linter.unusedVariables false
open Go Go.Proofs.Ytkemihfaohkoeaa.Am
namespace Go.Proofs.Ytkemihfaohkoeaa.Am11
theorem f38_F_0 {x0 : Array Value} {x1 : Int} {H : AHeap} {prot x4p x4o x4l : Nat} {H1 : AHeap} {x8 x10a : Array Value} {x10b : Int} {x5p x5o x5l : Nat} {H2 H3 : AHeap} {x13 : Array Value} {H4 : AHeap} {w : Array Value} (rv : Value) (rH : AHeap) (h1 : x0.toList.all isCell = true) (h2 : aalloc cfg.P 39 (H ++ [AObj.cells x0.toList 39 x0.toList.length OMode.var]) = some (Value.pointer (some ⟨x4p, x4o, some x4l⟩), H1)) (h3 : getCells H1 (List.length H) x0.toList.length 0 8 = some x8.toList) (h4 : callInf cfg 46 [Value.agg x8, Value.int .i64 x1] (List.length H) H1 = some (Value.tuple { toList := [Value.agg x10a, Value.int .i64 x10b] }, H1)) (h5 : aalloc cfg.P 39 H1 = some (Value.pointer (some ⟨x5p, x5o, some x5l⟩), H2)) (h6 : x10a.toList.length = 8) (h7 : setCells H2 (List.length H) x5p x5l x5o x10a.toList = some H3) (h8 : getCells H3 x5p x5l x5o 8 = some x13.toList) (h9 : x13.toList.length = 8) (h10 : setCells H3 (List.length H) x4p x4l x4o x13.toList = some H4) (h11 : getCells H4 x4p x4l x4o 8 = some w.toList) (h12 : pfin a38 H [Value.agg w] H4 = (rv, rH)) : callInf cfg 38 [.agg x0, .int .i64 x1] prot H = some (rv, rH) :=
  fn_of2 a38 [.e, .r (.pointer (some ⟨x4p, x4o, some x4l⟩)) H1, .v (.agg x8), .v (.tuple #[.agg x10a, .int .i64 x10b]), .r (.pointer (some ⟨x5p, x5o, some x5l⟩)) H2, .h H3, .v (.agg x13), .h H4, .v (.agg w)] (ai h1 (ai h2 (ai h3 (ai h4 (ai h5 (ai h6 (ai h7 (ai h8 (ai h9 (ai h10 (ai h11 h12))))))))))) (by kernel_rfl) rfl
end Go.Proofs.Ytkemihfaohkoeaa.Am11
set_option linter.unusedVariables false
open Go Go.Proofs.Ytkemihfaohkoeaa.Am
namespace Go.Proofs.Ytkemihfaohkoeaa.Am11
theorem f20_F_0 {x0 : Array Value} {x1 : Int} {H : AHeap} {prot : Nat} {x8 : Int} (h1 : x0.toList.all isCell = true) (h2 : Fit .i64 (x1.tdiv 64)) (h3 : 0 ≤ x1.tdiv 64) (h4 : x1.tdiv 64 < (↑8 : Int)) (h5 : getCells (H ++ [AObj.cells x0.toList 39 x0.toList.length OMode.var]) (List.length H) x0.toList.length (0 + (x1.tdiv 64).toNat * 1) 1 = some [Value.int .u64 x8]) (h6 : 0 ≤ IntKind.u64.wrap (x1.tmod 64)) : callInf cfg 20 [.agg x0, .int .i64 x1] prot H = some (Value.bool (IntKind.u64.wrap (↑(BitVec.ofInt IntKind.u64.bits (x8.fdiv (2 ^ min (IntKind.u64.wrap (x1.tmod 64)).toNat IntKind.u64.bits)) &&& BitVec.ofInt IntKind.u64.bits 1).toNat : Int) == 1), H) :=
  fn_of2 a20 [.e, .e, .e, .v (.int .u64 x8), .e, .e, .e, .e, .e] (ai h1 (ai (show (64 : Int) ≠ 0 by decide) (ai h2 (ai h3 (ai h4 (ai h5 (ai (show (64 : Int) ≠ 0 by decide) (ai h6 (Eq.refl ((Value.bool (IntKind.u64.wrap (↑(BitVec.ofInt IntKind.u64.bits (x8.fdiv (2 ^ min (IntKind.u64.wrap (x1.tmod 64)).toNat IntKind.u64.bits)) &&& BitVec.ofInt IntKind.u64.bits 1).toNat : Int) == 1), H) : Value × AHeap)))))))))) (by kernel_rfl) rfl
end Go.Proofs.Ytkemihfaohkoeaa.Am11
namespace Go.Proofs.Ytkemihfaohkoeaa.Am11
open Go Go.Proofs.Ytkemihfaohkoeaa.Am
theorem z39 : tzero cfg.P 39 = some (.agg ((List.replicate 8 (.int .u64 0)).toArray)) := by kernel_rfl
theorem al39 (H : AHeap) : aalloc cfg.P 39 H = some (.pointer (some ⟨H.length, 0, some 8⟩), H ++ [.cells (setL noS) 39 8 .var]) := by
  rw [setL_no]; exact alloc_arr z39 rfl H
theorem pf_plain {fn : AFunc} {H H' : AHeap} {vs : List Value} (hm : fn.muts = false) (h : vs.all plain1 = true) : pfin fn H vs H' = (tupled vs, H) := by
  rw [pfin_eq, if_neg (by simp [hm])]; exact gc_plain h

theorem c46 {S : Nat → Bool} {i : Nat} (hi : i < 512) (prot : Nat) (H : AHeap) : callInf cfg 46 [.agg (setA S), .int .i64 i] prot H = some (.tuple #[.agg (setA (addS S i)), .int .i64 0], H) := by
  obtain ⟨HA, hHA⟩ : ∃ HA, HA = H ++ [AObj.cells (setL S) 39 (setL S).length .var] := ⟨_, rfl⟩
  have lA : HA.length = H.length + 1 := by rw [hHA]; simp
  obtain ⟨HB, hHB⟩ : ∃ HB, HB = HA ++ [AObj.cells (setL noS) 39 8 .var] := ⟨_, rfl⟩
  have lB : HB.length = H.length + 2 := by rw [hHB, List.length_append, List.length_singleton]; omega
  have gA : HB[H.length]? = some (.cells (setL S) 39 8 .var) := by
    rw [hHB, List.getElem?_append_left (by omega), hHA, append_get.1, setL_len]
  have gB : HB[HA.length]? = some (.cells (setL noS) 39 8 .var) := by rw [hHB]; exact append_get.1
  have ha := al39 HA
  rw [← hHB] at ha
  have h50 : callInf cfg 50 [.int .i64 (i : Int)] H.length HB = some (.bool true, HB) := by
    have := f50_F_0 (x0 := (i : Int)) (H := HB) (prot := H.length) (by omega)
    rwa [decide_eq_true (show (i : Int) < 512 by omega)] at this
  have ed : (i : Int).tdiv 64 = ((i / 64 : Nat) : Int) := tdiv64 i
  have hw : i / 64 < 8 := by omega
  have r1 := arr_get gA (setL_len S) (setL_get hw)
  obtain ⟨HC, hHC⟩ : ∃ HC, HC = HB.set H.length (.cells (setL (addS S i)) 39 8 .var) := ⟨_, rfl⟩
  have s1 : setCells HB H.length H.length 8 (0 + i / 64 * 1) [.int .u64 ((wordS S (i / 64) ||| 2 ^ (i % 64) : Nat) : Int)] = some HC := by
    rw [hHC, ← setL_add hi]
    exact arr_set gA (setL_len S) (Nat.le_refl _) hw rfl
  have gC : HC[H.length]? = some (.cells (setL (addS S i)) 39 8 .var) := by rw [hHC, List.getElem?_set_self (by omega)]
  have gC2 : HC[HA.length]? = some (.cells (setL noS) 39 8 .var) := by rw [hHC, List.getElem?_set_ne (by omega)]; exact gB
  obtain ⟨HD, hHD⟩ : ∃ HD, HD = HC.set HA.length (.cells (setL (addS S i)) 39 8 .var) := ⟨_, rfl⟩
  have s2 : setCells HC H.length HA.length 8 0 (setL (addS S i)) = some HD := by rw [hHD]; exact arr_put gC2 (setL_len _) (by omega) (setL_len _) (setL_cell _)
  have lC : HC.length = HB.length := by rw [hHC]; simp
  have gD : HD[HA.length]? = some (.cells (setL (addS S i)) 39 8 .var) := by rw [hHD, List.getElem?_set_self (by omega)]
  have hor := bit_or (a := wordS S (i / 64)) (i := i) (wordS_lt _ _) (tmod64 i)
  rw [← hor] at s1
  have e8 : (setA S).toList.length = 8 := setL_len S
  subst hHA
  refine f46_F_0 (x13 := ((wordS S (i / 64) : Nat) : Int)) (x19 := setA (addS S i)) (w := setA (addS S i)) _ _ (setL_cell S) ha h50 rfl (by rw [ed]; exact fit64 (by omega) (by omega)) (by rw [ed]; omega) (by rw [ed]; omega) ?_ (by rw [tmod64]; omega) rfl ?_ ?_ (setL_len _) s2 (arr_all gD (setL_len _)) (pf_plain rfl (by rw [List.all_cons, setA_plain]; rfl))
  · rw [e8, ed, Int.toNat_natCast]; exact r1
  · rw [e8, ed, Int.toNat_natCast]; exact s1
  · rw [e8]; exact arr_all gC (setL_len _)
theorem c38 {S : Nat → Bool} {i : Nat} (hi : i < 512) (prot : Nat) (H : AHeap) : callInf cfg 38 [.agg (setA S), .int .i64 i] prot H = some (.agg (setA (addS S i)), H) := by
  obtain ⟨HA, hHA⟩ : ∃ HA, HA = H ++ [AObj.cells (setL S) 39 (setL S).length .var] := ⟨_, rfl⟩
  have lA : HA.length = H.length + 1 := by rw [hHA]; simp
  obtain ⟨HB, hHB⟩ : ∃ HB, HB = HA ++ [AObj.cells (setL noS) 39 8 .var] := ⟨_, rfl⟩
  have lB : HB.length = H.length + 2 := by rw [hHB, List.length_append, List.length_singleton]; omega
  have gA : HB[H.length]? = some (.cells (setL S) 39 8 .var) := by
    rw [hHB, List.getElem?_append_left (by omega), hHA, append_get.1, setL_len]
  have gB : HB[HA.length]? = some (.cells (setL noS) 39 8 .var) := by rw [hHB]; exact append_get.1
  have ha := al39 HA
  rw [← hHB] at ha
  obtain ⟨HC, hHC⟩ : ∃ HC, HC = HB ++ [AObj.cells (setL noS) 39 8 .var] := ⟨_, rfl⟩
  have lC : HC.length = H.length + 3 := by rw [hHC, List.length_append, List.length_singleton]; omega
  have ha2 := al39 HB
  rw [← hHC] at ha2
  have gC : HC[HB.length]? = some (.cells (setL noS) 39 8 .var) := by rw [hHC]; exact append_get.1
  have gC2 : HC[HA.length]? = some (.cells (setL noS) 39 8 .var) := by rw [hHC, List.getElem?_append_left (by omega)]; exact gB
  obtain ⟨HD, hHD⟩ : ∃ HD, HD = HC.set HB.length (.cells (setL (addS S i)) 39 8 .var) := ⟨_, rfl⟩
  have s1 : setCells HC H.length HB.length 8 0 (setL (addS S i)) = some HD := by rw [hHD]; exact arr_put gC (setL_len _) (by omega) (setL_len _) (setL_cell _)
  have gD : HD[HB.length]? = some (.cells (setL (addS S i)) 39 8 .var) := by rw [hHD, List.getElem?_set_self (by omega)]
  have gD2 : HD[HA.length]? = some (.cells (setL noS) 39 8 .var) := by rw [hHD, List.getElem?_set_ne (by omega)]; exact gC2
  obtain ⟨HE, hHE⟩ : ∃ HE, HE = HD.set HA.length (.cells (setL (addS S i)) 39 8 .var) := ⟨_, rfl⟩
  have s2 : setCells HD H.length HA.length 8 0 (setL (addS S i)) = some HE := by rw [hHE]; exact arr_put gD2 (setL_len _) (by omega) (setL_len _) (setL_cell _)
  have gE : HE[HA.length]? = some (.cells (setL (addS S i)) 39 8 .var) := by rw [hHE, List.getElem?_set_self (by rw [hHD, List.length_set]; omega)]
  have h46 := c46 (S := S) hi H.length HB
  have e8 : (setA S).toList.length = 8 := setL_len S
  subst hHA
  refine f38_F_0 (x8 := setA S) (x10a := setA (addS S i)) (x13 := setA (addS S i)) (w := setA (addS S i)) _ _ (setL_cell S) ha ?_ h46 ha2 (setL_len _) s1 (arr_all gD (setL_len _)) (setL_len _) s2 (arr_all gE (setL_len _)) (pf_plain rfl (by rw [List.all_cons, setA_plain]; rfl))
  rw [e8]; exact arr_all gA (setL_len _)
theorem c20 {S : Nat → Bool} {i : Nat} (hi : i < 512) (prot : Nat) (H : AHeap) : callInf cfg 20 [.agg (setA S), .int .i64 i] prot H = some (.bool (S i), H) := by
  have gA : (H ++ [AObj.cells (setL S) 39 (setL S).length .var])[H.length]? = some (.cells (setL S) 39 8 .var) := by rw [append_get.1, setL_len]
  have ed : (i : Int).tdiv 64 = ((i / 64 : Nat) : Int) := tdiv64 i
  have hw : i / 64 < 8 := by omega
  have r1 := arr_get gA (setL_len S) (setL_get hw)
  have em : IntKind.u64.wrap ((i : Int).tmod 64) = ((i % 64 : Nat) : Int) := by rw [tmod64, u64_wrapN, Nat.mod_eq_of_lt (by omega)]
  have hand := bit_and (a := wordS S (i / 64)) (i := i) (wordS_lt _ _) em
  have e8 : (setA S).toList.length = 8 := setL_len S
  have h := f20_F_0 (x0 := setA S) (x1 := (i : Int)) (x8 := ((wordS S (i / 64) : Nat) : Int)) (H := H) (prot := prot) (setL_cell S) (by rw [ed]; exact fit64 (by omega) (by omega)) (by rw [ed]; omega) (by rw [ed]; omega) (by rw [e8, ed, Int.toNat_natCast]; exact r1) (by rw [em]; omega)
  rw [hand] at h
  have hb : (((wordS S (i / 64) / 2 ^ (i % 64) % 2 : Nat) : Int) == 1) = S i := by
    rw [Bool.eq_iff_iff, beq_iff_eq, ← wordS_bit]
    omega
  rw [hb] at h
  exact h
end Go.Proofs.Ytkemihfaohkoeaa.Am11
set_option linter.unusedVariables false
open Go Go.Proofs.Ytkemihfaohkoeaa.Am
namespace Go.Proofs.Ytkemihfaohkoeaa.Am11
end Go.Proofs.Ytkemihfaohkoeaa.Am11
namespace Go.Proofs.Ytkemihfaohkoeaa.Am11
open Go Go.Proofs.Ytkemihfaohkoeaa.Am
/-- All that is reached, the vertex too. -/
noncomputable def rs (G : List (List Int)) (f : Nat) : Nat → Bool := fun x => @decide (x = f ∨ Rch G f x) (Classical.propDecidable _)
/-- What Reach answers. -/
noncomputable def reachV (G : List (List Int)) (f : Int) : (Nat → Bool) × Int :=
  if chk G ≠ 0 then (noS, chk G) else if f < 0 ∨ (G.length : Int) ≤ f then (noS, 3) else (rs G f.toNat, 0)
end Go.Proofs.Ytkemihfaohkoeaa.Am11
set_option linter.unusedVariables false
open Go Go.Proofs.Ytkemihfaohkoeaa.Am
namespace Go.Proofs.Ytkemihfaohkoeaa.Am11
theorem f17_F_0 {x0a : Option Addr} {x0n x0c : Nat} {H : AHeap} {prot : Nat} {z4a : Option Addr} {z4n z4c : Nat} {H1 : AHeap} (rv : Value) (rH : AHeap) (h1 : lpInf (lpOf cfg a17 0 prot H) ([Value.slice x0a x0n x0c, Value.int .i64 (if 512 < (↑x0n : Int) then 512 else (↑x0n : Int)), Value.slice none 0 0, Value.int .i64 0], H) = some (Ex.exit 0, [Value.slice z4a z4n z4c], H1)) (h2 : pfin a17 H [Value.slice z4a z4n z4c] H1 = (rv, rH)) : callInf cfg 17 [.slice x0a x0n x0c] prot H = some (rv, rH) :=
  fn_of2 a17 [.e, .e, .lo (.exit 0, [.slice z4a z4n z4c], H1)] (ai h1 h2) (by kernel_rfl) rfl
theorem f17_L0_0 {x0a : Option Addr} {x0n x0c : Nat} {x3 : Int} {x4a : Option Addr} {x4n x4c : Nat} {x5 : Int} {H0 : AHeap} {prot : Nat} {H : AHeap} {z0a : Option Addr} {z0n z0c : Nat} {z3 : Int} {z4a : Option Addr} {z4n z4c : Nat} {z5 : Int} {z6a : Option Addr} {z6n z6c : Nat} {H2 : AHeap} {x44a : Option Addr} {x44n x44c : Nat} {H3 : AHeap} (h1 : x5 < x3) (h2 : lpInf (lpOf cfg a17 1 prot H0) ([Value.slice x0a x0n x0c, Value.int .i64 x3, Value.slice x4a x4n x4c, Value.int .i64 x5, Value.slice none 0 0, Value.int .i64 0], H) = some (Ex.exit 2, [Value.slice z0a z0n z0c, Value.int .i64 z3, Value.slice z4a z4n z4c, Value.int .i64 z5, Value.slice z6a z6n z6c], H2)) (h3 : aappend cfg.P (List.length H0) true 22 22 (Value.slice z4a z4n z4c) (Value.slice (some ⟨List.length H2, 0, some (1 * 1)⟩) 1 1) (H2 ++ [wo [Value.slice z6a z6n z6c] 34]) = some (Value.slice x44a x44n x44c, H3)) (h4 : Fit .i64 (z5 + 1)) : lpOf cfg a17 0 prot H0 ([.slice x0a x0n x0c, .int .i64 x3, .slice x4a x4n x4c, .int .i64 x5], H) = some (Sum.inl ([Value.slice z0a z0n z0c, Value.int .i64 z3, Value.slice x44a x44n x44c, Value.int .i64 (z5 + 1)], H3)) :=
  lp_of2 [.e, .b true, .lo (.exit 2, [.slice z0a z0n z0c, .int .i64 z3, .slice z4a z4n z4c, .int .i64 z5, .slice z6a z6n z6c], H2), .e, .r (.slice x44a x44n x44c) H3, .e] (ai (decide_eq_true h1) (ai h2 (ai h3 (ai h4 (Eq.refl (Sum.inl ([Value.slice z0a z0n z0c, Value.int .i64 z3, Value.slice x44a x44n x44c, Value.int .i64 (z5 + 1)], H3) : LS ⊕ LO)))))) (by kernel_rfl)
theorem f17_L0_1 {x0a : Option Addr} {x0n x0c : Nat} {x3 : Int} {x4a : Option Addr} {x4n x4c : Nat} {x5 : Int} {H0 : AHeap} {prot : Nat} {H : AHeap} (h1 : ¬(x5 < x3)) : lpOf cfg a17 0 prot H0 ([.slice x0a x0n x0c, .int .i64 x3, .slice x4a x4n x4c, .int .i64 x5], H) = some (Sum.inr (Ex.exit 0, [Value.slice x4a x4n x4c], H)) :=
  lp_of2 [.e, .b false] (ai (decide_eq_false h1) (Eq.refl (Sum.inr (Ex.exit 0, [Value.slice x4a x4n x4c], H) : LS ⊕ LO))) (by kernel_rfl)
theorem f17_L1_0 {x0a : Option Addr} {x0n x0c : Nat} {x3 : Int} {x4a : Option Addr} {x4n x4c : Nat} {x5 : Int} {x6a : Option Addr} {x6n x6c : Nat} {x7 : Int} {H0 : AHeap} {prot : Nat} {H : AHeap} {x19p x19o x19l : Nat} {x20a : Option Addr} {x20n x20c x28p x28o x28l : Nat} {x29a : Option Addr} {x29n x29c x31p x31o x31l : Nat} {x32 : Int} {x40a : Option Addr} {x40n x40c : Nat} {H2 : AHeap} (h1 : aindexAddr cfg.P 22 (Value.slice x0a x0n x0c) (Value.int .i64 x5) = some (Value.pointer (some ⟨x19p, x19o, some x19l⟩))) (h2 : getCells H x19p x19l x19o 1 = some [Value.slice x20a x20n x20c]) (h3 : x7 < (↑x20n : Int)) (h4 : aindexAddr cfg.P 22 (Value.slice x0a x0n x0c) (Value.int .i64 x5) = some (Value.pointer (some ⟨x28p, x28o, some x28l⟩))) (h5 : getCells H x28p x28l x28o 1 = some [Value.slice x29a x29n x29c]) (h6 : aindexAddr cfg.P 34 (Value.slice x29a x29n x29c) (Value.int .i64 x7) = some (Value.pointer (some ⟨x31p, x31o, some x31l⟩))) (h7 : getCells H x31p x31l x31o 1 = some [Value.int .i64 x32]) (h8 : x3 ≠ 0) (h9 : Fit .i64 (x32.tmod x3 + x3)) (h10 : aappend cfg.P (List.length H0) true 34 34 (Value.slice x6a x6n x6c) (Value.slice (some ⟨List.length H, 0, some (1 * 1)⟩) 1 1) (H ++ [wo [Value.int .i64 ((x32.tmod x3 + x3).tmod x3)] 3]) = some (Value.slice x40a x40n x40c, H2)) (h11 : Fit .i64 (x7 + 1)) : lpOf cfg a17 1 prot H0 ([.slice x0a x0n x0c, .int .i64 x3, .slice x4a x4n x4c, .int .i64 x5, .slice x6a x6n x6c, .int .i64 x7], H) = some (Sum.inl ([Value.slice x0a x0n x0c, Value.int .i64 x3, Value.slice x4a x4n x4c, Value.int .i64 x5, Value.slice x40a x40n x40c, Value.int .i64 (x7 + 1)], H2)) :=
  lp_of2 [.v (.pointer (some ⟨x19p, x19o, some x19l⟩)), .v (.slice x20a x20n x20c), .e, .e, .b true, .v (.pointer (some ⟨x28p, x28o, some x28l⟩)), .v (.slice x29a x29n x29c), .v (.pointer (some ⟨x31p, x31o, some x31l⟩)), .v (.int .i64 x32), .e, .e, .e, .e, .r (.slice x40a x40n x40c) H2, .e] (ai h1 (ai h2 (ai (decide_eq_true h3) (ai h4 (ai h5 (ai h6 (ai h7 (ai h8 (ai h9 (ai h8 (ai h10 (ai h11 (Eq.refl (Sum.inl ([Value.slice x0a x0n x0c, Value.int .i64 x3, Value.slice x4a x4n x4c, Value.int .i64 x5, Value.slice x40a x40n x40c, Value.int .i64 (x7 + 1)], H2) : LS ⊕ LO)))))))))))))) (by kernel_rfl)
theorem f17_L1_1 {x0a : Option Addr} {x0n x0c : Nat} {x3 : Int} {x4a : Option Addr} {x4n x4c : Nat} {x5 : Int} {x6a : Option Addr} {x6n x6c : Nat} {x7 : Int} {H0 : AHeap} {prot : Nat} {H : AHeap} {x19p x19o x19l : Nat} {x20a : Option Addr} {x20n x20c : Nat} (h1 : aindexAddr cfg.P 22 (Value.slice x0a x0n x0c) (Value.int .i64 x5) = some (Value.pointer (some ⟨x19p, x19o, some x19l⟩))) (h2 : getCells H x19p x19l x19o 1 = some [Value.slice x20a x20n x20c]) (h3 : ¬(x7 < (↑x20n : Int))) : lpOf cfg a17 1 prot H0 ([.slice x0a x0n x0c, .int .i64 x3, .slice x4a x4n x4c, .int .i64 x5, .slice x6a x6n x6c, .int .i64 x7], H) = some (Sum.inr (Ex.exit 2, [Value.slice x0a x0n x0c, Value.int .i64 x3, Value.slice x4a x4n x4c, Value.int .i64 x5, Value.slice x6a x6n x6c], H)) :=
  lp_of2 [.v (.pointer (some ⟨x19p, x19o, some x19l⟩)), .v (.slice x20a x20n x20c), .e, .e, .b false] (ai h1 (ai h2 (ai (decide_eq_false h3) (Eq.refl (Sum.inr (Ex.exit 2, [Value.slice x0a x0n x0c, Value.int .i64 x3, Value.slice x4a x4n x4c, Value.int .i64 x5, Value.slice x6a x6n x6c], H) : LS ⊕ LO))))) (by kernel_rfl)
end Go.Proofs.Ytkemihfaohkoeaa.Am11
namespace Go.Proofs.Ytkemihfaohkoeaa.Am11
open Go Go.Proofs.Ytkemihfaohkoeaa.Am
/-- Lists leave room for two more. -/
def Short8 (G : List (List Int)) : Prop := G.length * 24 + 48 ≤ 140737488355328 ∧ ∀ l ∈ G, l.length * 8 + 16 ≤ 140737488355328
def wrapI (n : Nat) (x : Int) : Int := (x.tmod n + n).tmod n
theorem wrapI_range {n : Nat} (hn : 0 < n) (x : Int) : 0 ≤ wrapI n x ∧ wrapI n x < n := by
  unfold wrapI
  have h1 : -(n : Int) < x.tmod n := Int.lt_tmod_of_pos x (by omega)
  exact ⟨Int.tmod_nonneg _ (by omega), Int.tmod_lt_of_pos _ (by omega)⟩
/-- A graph out of any lists. -/
def wit (G : List (List Int)) : List (List Int) := (G.take 512).map fun l => l.map (wrapI (min 512 G.length))
theorem wit_len (G : List (List Int)) : (wit G).length = min 512 G.length := by unfold wit; rw [List.length_map, List.length_take]
theorem loop17i {G : List (List Int)} {n : Nat} (hn : 0 < n) (hn5 : n ≤ 512) {H0 G0 : AHeap} (hG0 : H0.length ≤ G0.length) {x0 x4 : Value} (hg : Gr G0 x0 G) {prot v : Nat} (hv : v < G.length) (hl : G[v].length * 8 + 16 ≤ 140737488355328) (hx4 : ∃ a m c, x4 = .slice a m c) : ∀ (d i : Nat) (x6 : Value) (o6 : Option Nat) (H : AHeap), i + d = G[v].length → Stay none G0 H → Own H 3 1 x6 o6 i (il ((G[v].take i).map (wrapI n))) → (∀ id, o6 = some id → G0.length ≤ id) →
    ∃ x' o' H', lpInf (lpOf cfg a17 1 prot H0) ([x0, .int .i64 n, x4, .int .i64 v, x6, .int .i64 i], H) = some (.exit 2, [x0, .int .i64 n, x4, .int .i64 v, x'], H') ∧ Own H' 3 1 x' o' G[v].length (il (G[v].map (wrapI n))) ∧ (∀ id, o' = some id → G0.length ≤ id) ∧ Stay none G0 H'
  | 0, i, x6, o6, H, hi, hst, hx, ho => by
    obtain ⟨id, L, r, p, q, hr⟩ := (hg.stay hst).row hv
    have he : i = G[v].length := by omega
    have hx0 := hx
    subst he
    rw [List.take_length] at hx0
    refine ⟨x6, o6, H, ?_, hx0, ho, hst⟩
    obtain ⟨_, _, rfl⟩ := hg.len
    obtain ⟨_, _, _, rfl⟩ := hx4
    obtain ⟨_, _, rfl⟩ := hr.len
    obtain ⟨_, _, rfl⟩ := hx.len
    exact lp_last (f17_L1_1 p q (by omega))
  | d + 1, i, x6, o6, H, hi, hst, hx, ho => by
    have hil : i < G[v].length := by omega
    obtain ⟨id, L, r, p, q, hr⟩ := (hg.stay hst).row hv
    obtain ⟨id2, L2, p2, q2⟩ := rd_at T34 hr (il_get hil)
    have hl1 := hst.1
    obtain ⟨a', c', o', H2, s1, s2, s3, s4, s5, s6⟩ := own_app T34 hx (ecs := [.int .i64 (wrapI n G[v][i])]) rfl rfl (prot := H0.length) (room := true) (fun id h => by have := ho id h; omega) (by omega) (by omega) (L := 1 * 1) rfl (el := [Value.int .i64 (wrapI n G[v][i])].length) rfl
    have e1 : il ((G[v].take i).map (wrapI n)) ++ [.int .i64 (wrapI n G[v][i])] = il ((G[v].take (i + 1)).map (wrapI n)) := by
      rw [List.take_add_one, List.getElem?_eq_getElem hil, List.map_append]
      unfold il
      rw [List.map_append]
      rfl
    rw [e1] at s2
    have ho' : G0.length ≤ o' := by
      cases hh : o6 with
      | none => have := s5 hh; omega
      | some j => have := s6 j hh; have := ho j hh; omega
    obtain ⟨x', o2, H', z1, z2, z3, z4⟩ := loop17i hn hn5 hG0 hg (prot := prot) hv hl hx4 d (i + 1) _ (some o') H2 (by omega) (hst.over s3 ho) s2 (fun id h => by cases h; exact ho')
    refine ⟨x', o2, H', ?_, z2, z3, z4⟩
    have m1 : -(n : Int) < G[v][i].tmod n := Int.lt_tmod_of_pos _ (by omega)
    have m2 := Int.tmod_lt_of_pos G[v][i] (show (0 : Int) < n by omega)
    obtain ⟨_, _, rfl⟩ := hg.len
    obtain ⟨_, _, _, rfl⟩ := hx4
    obtain ⟨_, _, rfl⟩ := hr.len
    obtain ⟨_, _, rfl⟩ := hx.len
    exact lp_next (f17_L1_0 p q (by omega) p q p2 q2 (by omega) (fit64 (by omega) (by omega)) s1 (fit64 (by omega) (by omega))) z1

theorem loop17o {G : List (List Int)} {n : Nat} (hn : n = min 512 G.length) {H0 : AHeap} {x0 : Value} (hg : Gr H0 x0 G) (hs : Short8 G) {prot : Nat} : ∀ (d v : Nat) (x4 : Value) (o4 : Option Nat) (cs : List Value) (H : AHeap), v + d = n → Stay none H0 H → Own H 34 1 x4 o4 v cs → (∀ id, o4 = some id → H0.length ≤ id) →
    (∀ (j : Nat) (l : List Int), j < v → G[j]? = some l → ∃ r, cs[j]? = some r ∧ Rd H 3 1 r l.length (il (l.map (wrapI n))) ∧ ∀ id off L m c, r = .slice (some ⟨id, off, some L⟩) m c → o4 ≠ some id) →
    ∃ x' o' cs' H', lpInf (lpOf cfg a17 0 prot H0) ([x0, .int .i64 n, x4, .int .i64 v], H) = some (.exit 0, [x'], H') ∧ Stay none H0 H' ∧ Own H' 34 1 x' o' n cs' ∧ (∀ id, o' = some id → H0.length ≤ id) ∧
      (∀ (j : Nat) (l : List Int), j < n → G[j]? = some l → ∃ r, cs'[j]? = some r ∧ Rd H' 3 1 r l.length (il (l.map (wrapI n))))
  | 0, v, x4, o4, cs, H, hv, hst, hx, ho, hr => by
    have he : v = n := by omega
    subst he
    refine ⟨x4, o4, cs, H, ?_, hst, hx, ho, fun j l hj hl => by obtain ⟨r, a, b, _⟩ := hr j l hj hl; exact ⟨r, a, b⟩⟩
    obtain ⟨_, _, rfl⟩ := hg.len
    obtain ⟨_, _, rfl⟩ := hx.len
    exact lp_last (f17_L0_1 (by omega))
  | d + 1, v, x4, o4, cs, H, hv, hst, hx, ho, hr => by
    have hvG : v < G.length := by omega
    have hlv := hs.2 _ (List.getElem_mem hvG)
    have hl1 := hst.1
    obtain ⟨x6, o6, H2, u1, u2, u3, u4⟩ := loop17i (n := n) (by omega) (by omega) hl1 (hg.stay hst) (prot := prot) hvG hlv (by obtain ⟨a, c, h⟩ := hx.len; exact ⟨a, _, c, h⟩) G[v].length 0 (.slice none 0 0) none H (by omega) (Stay.refl _ _) own_nil (fun id h => by cases h)
    have hx2 := hx.stay u4 (fun _ _ h => by cases h)
    have l2 := u4.1
    have h6 := u2.len
    have hcell : [x6].all isCell = true := by obtain ⟨_, _, rfl⟩ := h6; rfl
    have hsl := hs.1
    obtain ⟨a', c', o', H3, s1, s2, s3, s4, s5, s6⟩ := own_app T22 hx2 (ecs := [x6]) rfl hcell (prot := H0.length) (room := true) ho (by omega) (by omega) (L := 1 * 1) rfl (el := [x6].length) rfl
    have hol : ∀ id, o4 = some id → id < H.length := fun id h => by
      rw [h] at hx
      exact (List.getElem?_eq_some_iff.1 hx.2.2.2.choose_spec.2).1
    have hx6l : ∀ id off L m c, x6 = .slice (some ⟨id, off, some L⟩) m c → H.length ≤ id ∧ id < H2.length := fun id off L m c e => by
      have h1 := u2.rd.low id off L m c e
      refine ⟨?_, h1⟩
      cases ho6 : o6 with
      | none =>
        rw [ho6] at u2
        rcases u2.2.2 with h | h
        · rw [h] at e; cases e
        · rw [h] at e; cases e
      | some k =>
        rw [ho6] at u2
        have h2 := u2.2.2.1
        rw [h2] at e
        have := u3 k ho6
        cases e
        exact this
    have hcl : cs.length = v := by have := hx.1; omega
    obtain ⟨x', o2, cs', H', z1, z2, z3, z4, z5⟩ := loop17o hn hg hs (prot := prot) d (v + 1) _ (some o') (cs ++ [x6]) H3 (by omega) ((hst.trans u4).over s3 ho) s2 (fun id h => by cases h; exact s4) (fun j l hj hl => by
      by_cases he : j = v
      · subst he
        rw [List.getElem?_eq_getElem hvG] at hl
        cases hl
        refine ⟨x6, by rw [List.getElem?_append_right (by omega), hcl, Nat.sub_self]; rfl, u2.rd.stayNe s3 (fun id off L m c e h => by have := hx6l id off L m c e; have := hol id h; omega), fun id off L m c e h => ?_⟩
        have h := Option.some.inj h
        have := hx6l id off L m c e
        cases hh : o4 with
        | none => have := s5 hh; omega
        | some k => have := s6 k hh; have := hol k hh; omega
      · obtain ⟨r, r1, r2, r3⟩ := hr j l (by omega) hl
        refine ⟨r, by rw [List.getElem?_append_left (by omega)]; exact r1, (r2.stay u4).stayNe s3 r3, fun id off L m c e h => ?_⟩
        have h := Option.some.inj h
        have hlow := r2.low id off L m c e
        cases hh : o4 with
        | none => have := s5 hh; omega
        | some k => have := s6 k hh; exact r3 id off L m c e (by rw [hh, ← this, h]))
    refine ⟨x', o2, cs', H', ?_, z2, z3, z4, z5⟩
    obtain ⟨_, _, rfl⟩ := hg.len
    obtain ⟨_, _, rfl⟩ := hx.len
    obtain ⟨_, _, rfl⟩ := h6
    exact lp_next (f17_L0_0 (by omega) u1 s1 (fit64 (by omega) (by omega))) z1

theorem c17 {G : List (List Int)} (hs : Short8 G) {x0 : Value} (prot : Nat) {H : AHeap} (hg : Gr H x0 G) : ∃ x' H', callInf cfg 17 [x0] prot H = some (x', H') ∧ Gr H' x' (wit G) ∧ Stay none H H' := by
  obtain ⟨n, hn⟩ : ∃ n, n = min 512 G.length := ⟨_, rfl⟩
  obtain ⟨x', o', cs', H', z1, z2, z3, z4, z5⟩ := loop17o hn hg hs (prot := prot) n 0 (.slice none 0 0) none [] H (by omega) (Stay.refl _ _) own_nil (fun id h => by cases h) (fun j l hj => by omega)
  have hmin : (if (512 : Int) < (G.length : Int) then 512 else (G.length : Int)) = (n : Int) := by
    split <;> omega
  have hgr : ∀ Hx, (∀ e m c cs, Rd H' e 1 x' m cs → Rd Hx e 1 x' m cs) → (∀ r m cs, Rd H' 3 1 r m cs → Rd Hx 3 1 r m cs) → Gr Hx x' (wit G) := fun Hx h1 h2 => by
    refine ⟨cs', by rw [wit_len, ← hn]; exact h1 _ _ 0 _ z3.rd, fun i l hl => ?_⟩
    unfold wit at hl
    rw [List.getElem?_map, Option.map_eq_some_iff] at hl
    obtain ⟨l0, hl0, rfl⟩ := hl
    have hi : i < (G.take 512).length := (List.getElem?_eq_some_iff.1 hl0).1
    rw [List.length_take] at hi
    rw [List.getElem?_take_of_lt (by omega)] at hl0
    obtain ⟨r, a, b⟩ := z5 i l0 (by omega) hl0
    rw [← hn]
    exact ⟨r, a, by rw [List.length_map]; exact h2 _ _ _ b⟩
  obtain ⟨aG, cG, rfl⟩ := hg.len
  rw [← hmin] at z1
  have hz3 := z3
  obtain ⟨ax, cx, hxe⟩ := z3.len
  cases ho : o' with
  | none =>
    rw [ho] at hz3
    have h0 : n = 0 := hz3.2.1
    have hG0 : G = [] := List.eq_nil_of_length_eq_zero (by omega)
    have hpf : pfin a17 H [x'] H' = (x', H) := by
      rw [pfin_eq, if_neg (by simp [a17])]
      rcases hz3.2.2 with hx | hx
      · rw [hx]; exact gc_plain rfl
      · rw [hx]; rfl
    refine ⟨x', H, ?_, ⟨[], ?_, fun i l hl => ?_⟩, Stay.refl _ _⟩
    · rw [hxe] at z1 hpf ⊢; exact f17_F_0 _ _ z1 hpf
    · subst hG0; exact ⟨rfl, .inl ⟨rfl, hz3.2.2⟩⟩
    · subst hG0; simp [wit] at hl
  | some id =>
    rw [ho] at hz3
    have hpos : 0 < n := hz3.2.1
    obtain ⟨l, hl⟩ : ∃ l, G[0]? = some l := ⟨_, List.getElem?_eq_getElem (by omega)⟩
    by_cases hnp : cs'.all plain0 = true
    · -- all rows are nil
      obtain ⟨x2, o2, H2, g1, g2, g3, g4, _⟩ := gc_row (H := H) (ps := []) z3 z4 hnp rfl
      have hpf : pfin a17 H [x'] H' = (x2, H2) := by
        rw [pfin_eq, if_neg (by simp [a17])]; exact g1
      refine ⟨x2, H2, ?_, ⟨cs', by rw [wit_len, ← hn]; exact g2.rd, fun i l hl => ?_⟩, g3⟩
      · rw [hxe] at z1 hpf; exact f17_F_0 _ _ z1 hpf
      · unfold wit at hl
        rw [List.getElem?_map, Option.map_eq_some_iff] at hl
        obtain ⟨l0, hl0, rfl⟩ := hl
        have hi : i < (G.take 512).length := (List.getElem?_eq_some_iff.1 hl0).1
        rw [List.length_take] at hi
        rw [List.getElem?_take_of_lt (by omega)] at hl0
        obtain ⟨r, a, b⟩ := z5 i l0 (by omega) hl0
        have hrp := List.all_eq_true.1 hnp r (List.mem_of_getElem? a)
        rw [← hn]
        refine ⟨r, a, ?_⟩
        rw [List.length_map]
        rcases b.2 with h | ⟨id, L, wr, md, c, all, h, _⟩
        · exact ⟨b.1, .inl h⟩
        · rw [h] at hrp; simp [plain0] at hrp
    · have hnp : cs'.all plain0 = false := by simpa using hnp
      have hpf : pfin a17 H [x'] H' = (x', H') := by
        rw [pfin_eq, if_neg (by simp [a17])]; exact gc_not hz3 hnp
      refine ⟨x', H', ?_, hgr H' (fun _ _ _ _ h => h) (fun _ _ _ h => h), z2⟩
      rw [hxe] at z1 hpf ⊢; exact f17_F_0 _ _ z1 hpf
end Go.Proofs.Ytkemihfaohkoeaa.Am11
set_option linter.unusedVariables false
open Go Go.Proofs.Ytkemihfaohkoeaa.Am
namespace Go.Proofs.Ytkemihfaohkoeaa.Am11
end Go.Proofs.Ytkemihfaohkoeaa.Am11
set_option linter.unusedVariables false
open Go Go.Proofs.Ytkemihfaohkoeaa.Am
namespace Go.Proofs.Ytkemihfaohkoeaa.Am11
theorem f13_F_0 {x0 : Int} {H : AHeap} {prot : Nat}  : callInf cfg 13 [.int .i64 x0] prot H = some (Value.int .i64 x0, H) :=
  fn_of2 a13 [] (Eq.refl ((Value.int .i64 x0, H) : Value × AHeap)) (by kernel_rfl) rfl
end Go.Proofs.Ytkemihfaohkoeaa.Am11
namespace Go.Proofs.Ytkemihfaohkoeaa.Am11
open Go Go.Proofs.Ytkemihfaohkoeaa.Am
theorem cKnows (prot : Nat) (H : AHeap) : callInf cfg 16 [] prot H = some (.bool true, H) := by
  refine callInf_body ?_
  unfold callWith
  have h : cfg.code 16 = some a16 := rfl
  rw [h]
  rfl
/-! ### Numbers of components -/
def Mu (G : List (List Int)) (u v : Nat) : Prop := Rch G u v ∧ Rch G v u
theorem Mu.symm {G : List (List Int)} {u v : Nat} (h : Mu G u v) : Mu G v u := ⟨h.2, h.1⟩
theorem Mu.trans {G : List (List Int)} {u v w : Nat} (h : Mu G u v) (k : Mu G v w) : Mu G u w := ⟨h.1.trans k.1, k.2.trans h.2⟩
theorem mu_Mu {G : List (List Int)} {u v : Nat} : mu G u v = true ↔ Mu G u v := mu_iff
/-- Numbers rise by one at most. -/
def pr : List Nat → Nat → Option Nat
  | [], m => some m
  | x :: l, m => if x ≤ m then pr l (max m (x + 1)) else none
theorem pr_snoc {x n : Nat} (hx : x ≤ n) : ∀ (l : List Nat) (m : Nat), pr l m = some n → pr (l ++ [x]) m = some (max n (x + 1))
  | [], m, h => by
    simp only [pr, Option.some.injEq] at h
    subst h
    simp [pr, hx]
  | y :: l, m, h => by
    rw [List.cons_append, pr]
    rw [pr] at h
    split at h
    · rename_i hy
      rw [if_pos hy]
      exact pr_snoc hx l _ h
    · cases h
structure NI (G : List (List Int)) (v : Nat) (out : List Nat) (n : Nat) : Prop where
  l : out.length = v
  b : ∀ i, i < v → out.getD i 0 < n
  e : ∀ u w, u < v → w < v → (out.getD u 0 = out.getD w 0 ↔ u = w ∨ Mu G u w)
  p : pr out 0 = some n
theorem getD_snoc {out : List Nat} {x i : Nat} : (out ++ [x]).getD i 0 = if i = out.length then x else out.getD i 0 := by
  by_cases h : i < out.length
  · rw [if_neg (by omega), List.getD_eq_getElem?_getD, List.getElem?_append_left h, ← List.getD_eq_getElem?_getD]
  · by_cases h2 : i = out.length
    · subst h2; simp [List.getD_eq_getElem?_getD]
    · rw [if_neg h2, List.getD_eq_getElem?_getD, List.getD_eq_getElem?_getD, List.getElem?_eq_none (by simp; omega), List.getElem?_eq_none (by omega)]
theorem numR_ok {G : List (List Int)} : ∀ (d v : Nat) (out : List Nat) (n : Nat), NI G v out n → NI G (v + d) (numR G d v out n).1 (numR G d v out n).2
  | 0, v, out, n, h => h
  | d + 1, v, out, n, h => by
    rw [numR, show v + (d + 1) = v + 1 + d by omega]
    cases hf : findM (mu G v) v 0 with
    | some u =>
      obtain ⟨_, hu, hm⟩ := findM_some hf
      have hmu := mu_Mu.1 hm
      have hul : u < v := by omega
      refine numR_ok d (v + 1) _ n ⟨by simp [h.l], fun i hi => ?_, fun a c ha hc => ?_, ?_⟩
      · rw [getD_snoc, h.l]
        split
        · exact h.b u hul
        · exact h.b i (by omega)
      · have new : ∀ w, w < v → (out.getD w 0 = out.getD u 0 ↔ Mu G w v) := fun w hw => by
          rw [h.e w u hw hul]
          constructor
          · rintro (rfl | h1)
            · exact hmu.symm
            · exact h1.trans hmu.symm
          · intro h1
            by_cases e : w = u
            · exact .inl e
            · exact .inr (h1.trans hmu)
        rw [getD_snoc, getD_snoc, h.l]
        by_cases e1 : a = v
        · by_cases e2 : c = v
          · rw [if_pos e1, if_pos e2]; simp [e1, e2]
          · rw [if_pos e1, if_neg e2]
            have := new c (by omega)
            subst e1
            constructor
            · intro h1; exact .inr (this.1 h1.symm).symm
            · rintro (h1 | h1)
              · exact absurd h1.symm e2
              · exact (this.2 h1.symm).symm
        · by_cases e2 : c = v
          · rw [if_neg e1, if_pos e2]
            have := new a (by omega)
            subst e2
            constructor
            · intro h1; exact .inr (this.1 h1)
            · rintro (h1 | h1)
              · exact absurd h1 e1
              · exact this.2 h1
          · rw [if_neg e1, if_neg e2]
            exact h.e a c (by omega) (by omega)
      · have hb := h.b u hul
        have := pr_snoc (Nat.le_of_lt hb) out 0 h.p
        rw [Nat.max_eq_left (by omega)] at this
        exact this
    | none =>
      have hno : ∀ w, w < v → ¬ Mu G v w := fun w hw hm => by
        have := findM_none hf w (Nat.zero_le _) (by omega)
        rw [mu_Mu.2 hm] at this
        cases this
      refine numR_ok d (v + 1) _ (n + 1) ⟨by simp [h.l], fun i hi => ?_, fun a c ha hc => ?_, ?_⟩
      · rw [getD_snoc, h.l]
        split
        · omega
        · have := h.b i (by omega); omega
      · rw [getD_snoc, getD_snoc, h.l]
        by_cases e1 : a = v
        · by_cases e2 : c = v
          · rw [if_pos e1, if_pos e2]; simp [e1, e2]
          · rw [if_pos e1, if_neg e2]
            have := h.b c (by omega)
            subst e1
            constructor
            · intro h1; omega
            · rintro (h1 | h1)
              · exact absurd h1.symm e2
              · exact absurd h1 (hno c (by omega))
        · by_cases e2 : c = v
          · rw [if_neg e1, if_pos e2]
            have := h.b a (by omega)
            subst e2
            constructor
            · intro h1; omega
            · rintro (h1 | h1)
              · exact absurd h1 e1
              · exact absurd h1.symm (hno a (by omega))
          · rw [if_neg e1, if_neg e2]
            exact h.e a c (by omega) (by omega)
      · have := pr_snoc (Nat.le_refl n) out 0 h.p
        rw [Nat.max_eq_right (by omega)] at this
        exact this
theorem comp_ok (G : List (List Int)) : NI G G.length (comp G).1 (comp G).2 := by
  have := numR_ok (G := G) G.length 0 [] 0 ⟨rfl, fun i h => by omega, fun u w h => by omega, rfl⟩
  rw [Nat.zero_add] at this
  exact this

/-! ### The graph that is made -/
theorem wit_short {G : List (List Int)} (h : Short8 G) : Short (wit G) := fun l hl => by
  unfold wit at hl
  rw [List.mem_map] at hl
  obtain ⟨l0, h0, rfl⟩ := hl
  rw [List.length_map]
  have := h.2 l0 (List.mem_of_mem_take h0)
  omega
theorem wit_chk (G : List (List Int)) : chk (wit G) = 0 := by
  unfold chk
  rw [if_neg (by rw [wit_len]; omega), if_neg]
  rw [Bool.not_eq_true, List.any_eq_false]
  intro l hl
  unfold bad
  rw [Bool.not_eq_true, List.any_eq_false]
  intro x hx
  have hlen := wit_len G
  unfold wit at hl
  rw [List.mem_map] at hl
  obtain ⟨l0, h0, rfl⟩ := hl
  rw [List.mem_map] at hx
  obtain ⟨y, _, rfl⟩ := hx
  have hpos : 0 < min 512 G.length := by
    have : 0 < (G.take 512).length := List.length_pos_of_mem h0
    rw [List.length_take] at this
    exact this
  have := wrapI_range hpos y
  rw [hlen]
  simp
  omega
end Go.Proofs.Ytkemihfaohkoeaa.Am11
namespace Go.Proofs.Ytkemihfaohkoeaa.Am11
open Go Go.Proofs.Ytkemihfaohkoeaa.Am
/-! Components and what they reach. -/
def RQ (G : List (List Int)) (v u : Nat) : Prop := u = v ∨ Rch G v u
theorem RQ.trans {G : List (List Int)} {a b c : Nat} (h : RQ G a b) (k : RQ G b c) : RQ G a c := by
  rcases h with rfl | h
  · exact k
  · rcases k with rfl | k
    · exact .inr h
    · exact .inr (h.trans k)
noncomputable def Lc (G : List (List Int)) (v : Nat) : Nat := (comp G).1.getD v 0
theorem pr_mem : ∀ (l : List Nat) (m n : Nat), pr l m = some n → ∀ c, m ≤ c → c < n → c ∈ l
  | [], m, n, h, c, h1, h2 => by simp only [pr, Option.some.injEq] at h; omega
  | x :: l, m, n, h, c, h1, h2 => by
    rw [pr] at h
    split at h
    · by_cases e : c = x
      · subst e; simp
      · refine List.mem_cons_of_mem _ (pr_mem l _ n h c ?_ h2)
        omega
    · cases h
theorem pr_le : ∀ (l : List Nat) (m n : Nat), pr l m = some n → n ≤ m + l.length
  | [], m, n, h => by simp only [pr, Option.some.injEq] at h; simp; omega
  | y :: l, m, n, h => by
    rw [pr] at h
    split at h
    · have := pr_le l _ _ h; simp; omega
    · cases h
theorem comp_n (G : List (List Int)) : (comp G).2 ≤ G.length := by
  have h := comp_ok G
  have := pr_le _ _ _ h.p
  rw [h.l] at this
  omega
theorem Lc_lt {G : List (List Int)} {v : Nat} (hv : v < G.length) : Lc G v < (comp G).2 := (comp_ok G).b v hv
theorem Lc_onto {G : List (List Int)} {c : Nat} (hc : c < (comp G).2) : ∃ v, v < G.length ∧ Lc G v = c := by
  have h := comp_ok G
  obtain ⟨v, hv⟩ := List.getElem?_of_mem (pr_mem _ _ _ h.p c (Nat.zero_le _) hc)
  have hl := (List.getElem?_eq_some_iff.1 hv).1
  refine ⟨v, by have := h.l; omega, ?_⟩
  unfold Lc
  rw [List.getD_eq_getElem?_getD, hv]
  rfl
theorem Lc_eq {G : List (List Int)} {u v : Nat} (hu : u < G.length) (hv : v < G.length) : Lc G u = Lc G v ↔ u = v ∨ Mu G u v := (comp_ok G).e u v hu hv
theorem Lc_RQ {G : List (List Int)} {u v : Nat} (hu : u < G.length) (hv : v < G.length) (h : Lc G u = Lc G v) : RQ G u v := by
  rcases (Lc_eq hu hv).1 h with rfl | h
  · exact .inl rfl
  · exact .inr h.1
/-- A component reaches a component. -/
def Abv (G : List (List Int)) (c d : Nat) : Prop := ∃ v u, v < G.length ∧ u < G.length ∧ Lc G v = c ∧ Lc G u = d ∧ RQ G v u
theorem Abv.self {G : List (List Int)} {c : Nat} (hc : c < (comp G).2) : Abv G c c := by
  obtain ⟨v, hv, h⟩ := Lc_onto hc
  exact ⟨v, v, hv, hv, h, h, .inl rfl⟩
theorem Abv.trans {G : List (List Int)} {c d i : Nat} (h : Abv G c d) (k : Abv G d i) : Abv G c i := by
  obtain ⟨v, u, hv, hu, h1, h2, h3⟩ := h
  obtain ⟨w, x, hw, hx, k1, k2, k3⟩ := k
  exact ⟨v, x, hv, hx, h1, k2, (h3.trans (Lc_RQ hu hw (by rw [h2, k1]))).trans k3⟩
theorem Abv.anti {G : List (List Int)} {c d : Nat} (h : Abv G c d) (k : Abv G d c) : c = d := by
  obtain ⟨v, u, hv, hu, h1, h2, h3⟩ := h
  obtain ⟨w, x, hw, hx, k1, k2, k3⟩ := k
  have h4 : RQ G u v := ((Lc_RQ hu hw (by rw [h2, k1])).trans k3).trans (Lc_RQ hx hv (by rw [k2, h1]))
  rw [← h1, ← h2]
  refine (Lc_eq hv hu).2 ?_
  rcases h3 with rfl | h3
  · exact .inl rfl
  · rcases h4 with rfl | h4
    · exact .inl rfl
    · exact .inr ⟨h3, h4⟩
noncomputable def abv (G : List (List Int)) (c d : Nat) : Bool := @decide (Abv G c d) (Classical.propDecidable _)
theorem abv_iff {G : List (List Int)} {c d : Nat} : abv G c d = true ↔ Abv G c d := by unfold abv; exact @decide_eq_true_iff _ (Classical.propDecidable _)
end Go.Proofs.Ytkemihfaohkoeaa.Am11
namespace Go.Proofs.Ytkemihfaohkoeaa.Am
open Go
/-! Lists of sets of eight words. -/
def sets (A : Nat → Nat → Bool) (n : Nat) : List Value := (List.range n).flatMap fun c => setL (A c)
theorem sets_succ (A : Nat → Nat → Bool) (n : Nat) : sets A (n + 1) = sets A n ++ setL (A n) := by
  unfold sets
  rw [List.range_succ, List.flatMap_append]
  simp
theorem sets_len (A : Nat → Nat → Bool) : ∀ n, (sets A n).length = n * 8
  | 0 => rfl
  | n + 1 => by rw [sets_succ, List.length_append, sets_len A n, setL_len]; omega
theorem sets_plain (A : Nat → Nat → Bool) : ∀ n, (sets A n).all plain0 = true
  | 0 => rfl
  | n + 1 => by rw [sets_succ, List.all_append, sets_plain A n, setL_plain]; rfl
theorem sets_congr {A B : Nat → Nat → Bool} : ∀ n, (∀ c, c < n → ∀ i, i < 512 → A c i = B c i) → sets A n = sets B n
  | 0, _ => rfl
  | n + 1, h => by rw [sets_succ, sets_succ, sets_congr n (fun c hc => h c (by omega)), setL_congr (h n (by omega))]
theorem sets_get (A : Nat → Nat → Bool) {i : Nat} : ∀ n, i < n → ((sets A n).drop (i * 8)).take 8 = setL (A i)
  | 0, h => by omega
  | n + 1, h => by
    have hl := sets_len A n
    rw [sets_succ]
    by_cases e : i = n
    · subst e
      rw [List.drop_append_of_le_length (by omega), List.drop_of_length_le (by omega), List.nil_append, List.take_of_length_le (by rw [setL_len]; omega)]
    · rw [List.drop_append_of_le_length (by omega), List.take_append_of_le_length (by rw [List.length_drop]; omega)]
      exact sets_get A n (by omega)
theorem sets_put (A : Nat → Nat → Bool) (T : Nat → Bool) {i : Nat} : ∀ n, i < n → putList (sets A n) (i * 8 + 0) (setL T) = sets (fun c => if c = i then T else A c) n
  | 0, h => by omega
  | n + 1, h => by
    have hl := sets_len A n
    have hT := setL_len T
    rw [sets_succ, sets_succ]
    by_cases e : i = n
    · subst e
      unfold putList
      rw [if_pos rfl, List.take_append_of_le_length (by omega), List.take_of_length_le (by omega), List.drop_of_length_le (by rw [List.length_append, setL_len]; omega), List.append_nil]
      congr 1
      exact sets_congr i (fun c hc j _ => by rw [if_neg (by omega)])
    · have ih := sets_put A T n (show i < n by omega)
      rw [← ih, if_neg (by omega)]
      unfold putList
      rw [List.take_append_of_le_length (by omega), List.drop_append_of_le_length (by omega)]
      simp [List.append_assoc]
theorem repCells_snoc (z : List Value) : ∀ n, repCells z (n + 1) = repCells z n ++ z
  | 0 => by simp [repCells]
  | n + 1 => by
    show z ++ repCells z (n + 1) = (z ++ repCells z n) ++ z
    rw [repCells_snoc z n, List.append_assoc]
theorem sets_no : ∀ n, sets (fun _ => noS) n = repCells (List.replicate 8 (.int .u64 0)) n
  | 0 => by simp [sets, repCells]
  | n + 1 => by rw [sets_succ, sets_no n, setL_no, repCells_snoc]

/-- A row of one's own, it may be empty. -/
def OwnS (H : AHeap) (e s : Nat) (x : Value) (n : Nat) (cs : List Value) (b : Nat) : Prop :=
  (∃ o, Own H e s x o n cs ∧ ∀ id, o = some id → b ≤ id) ∨ (n = 0 ∧ cs = [] ∧ ∃ id, x = .slice (some ⟨id, 0, some 0⟩) 0 0 ∧ b ≤ id ∧ H[id]? = some (.cells [] e 0 .row))
theorem OwnS.rd {H : AHeap} {e s n b : Nat} {x : Value} {cs : List Value} (h : OwnS H e s x n cs b) : Rd H e s x n cs := by
  rcases h with ⟨o, h, _⟩ | ⟨rfl, rfl, id, rfl, _, h⟩
  · exact h.rd
  · exact ⟨by simp, .inr ⟨id, 0, 0, .row, 0, [], rfl, Nat.le_refl _, Nat.le_refl _, by omega, h, by simp⟩⟩
theorem OwnS.weak {H : AHeap} {e s n b c : Nat} {x : Value} {cs : List Value} (h : OwnS H e s x n cs b) (hc : c ≤ b) : OwnS H e s x n cs c := by
  rcases h with ⟨o, h, h2⟩ | ⟨a1, a2, id, a3, h1, h⟩
  · exact .inl ⟨o, h, fun id e => Nat.le_trans hc (h2 id e)⟩
  · exact .inr ⟨a1, a2, id, a3, Nat.le_trans hc h1, h⟩
theorem OwnS.stay {H H' : AHeap} {e s n b : Nat} {x : Value} {cs : List Value} (h : OwnS H e s x n cs b) (k : Stay none H H') : OwnS H' e s x n cs b := by
  rcases h with ⟨o, h, h2⟩ | ⟨rfl, rfl, id, rfl, h1, h⟩
  · exact .inl ⟨o, h.stay k (fun _ _ h => by cases h), h2⟩
  · exact .inr ⟨rfl, rfl, id, rfl, h1, by rw [k.2 id (List.getElem?_eq_some_iff.1 h).1 (by simp)]; exact h⟩
theorem gcS {H H1 : AHeap} {e s n : Nat} {x : Value} {cs : List Value} (h : OwnS H1 e s x n cs H.length) (hp : cs.all plain0 = true) {ps : List Value} (hps : ps.all plain1 = true) :
    ∃ x' H', gc H (x :: ps) H1 = (tupled (x' :: ps), H') ∧ OwnS H' e s x' n cs H.length ∧ Stay none H H' := by
  rcases h with ⟨o, h, h2⟩ | ⟨rfl, rfl, id, rfl, h1, h⟩
  · obtain ⟨x', o', H', g1, g2, g3, g4, _⟩ := gc_row h h2 hp hps
    exact ⟨x', H', g1, .inl ⟨o', g2, g4⟩, g3⟩
  · refine ⟨.slice (some ⟨H.length, 0, some 0⟩) 0 0, H ++ [.cells [] e 0 .row], ?_, .inr ⟨rfl, rfl, H.length, rfl, Nat.le_refl _, append_get.1⟩, Stay.app none H _⟩
    unfold gc
    simp only [gcHeap]
    simp only [sliceIds, sliceIds_plain ps hps, noDup, List.contains_nil, Bool.not_false, Bool.and_self, if_true, keepAll, keep1]
    rw [if_neg (by omega), h]
    simp only
    rw [if_pos ⟨rfl, by simp⟩, Option.bind_some, keepAll_plain ps _ hps]
    simp
end Go.Proofs.Ytkemihfaohkoeaa.Am
set_option linter.unusedVariables false
open Go Go.Proofs.Ytkemihfaohkoeaa.Am
namespace Go.Proofs.Ytkemihfaohkoeaa.Am11
theorem f40_F_0 {x0a : Option Addr} {x0n x0c : Nat} {H : AHeap} {prot : Nat} {x10a : Option Addr} {x10n x10c : Nat} {H1 : AHeap} {x14aa : Option Addr} {x14an x14ac : Nat} {x14b : Int} {H2 : AHeap} {z6a : Option Addr} {z6n z6c : Nat} {H3 : AHeap} (rv : Value) (rH : AHeap) (h1 : callInf cfg 37 [Value.slice x0a x0n x0c] (List.length H) H = some (Value.slice x10a x10n x10c, H1)) (h2 : callInf cfg 36 [Value.slice x0a x0n x0c, Value.slice x10a x10n x10c] (List.length H) H1 = some (Value.tuple { toList := [Value.slice x14aa x14an x14ac, Value.int .i64 x14b] }, H2)) (h3 : 0 ≤ x14b) (h4 : x14b = x14b) (h5 : x14b ≤ 9223372036854775807) (h6 : (↑64 : Int) * x14b ≤ 2 ^ 48) (h7 : lpInf (lpOf cfg a40 0 prot H) ([Value.slice x0a x0n x0c, Value.slice x10a x10n x10c, Value.slice x14aa x14an x14ac, Value.slice (some ⟨List.length H2, 0, some (x14b.toNat * 8)⟩) x14b.toNat x14b.toNat, Value.int .i64 (↑x0n : Int), Value.int .i64 0], H2 ++ [AObj.cells (repCells [Value.int .u64 0, Value.int .u64 0, Value.int .u64 0, Value.int .u64 0, Value.int .u64 0, Value.int .u64 0, Value.int .u64 0, Value.int .u64 0] x14b.toNat) 39 (repCells [Value.int .u64 0, Value.int .u64 0, Value.int .u64 0, Value.int .u64 0, Value.int .u64 0, Value.int .u64 0, Value.int .u64 0, Value.int .u64 0] x14b.toNat).length OMode.row]) = some (Ex.exit 0, [Value.slice z6a z6n z6c], H3)) (h8 : pfin a40 H [Value.slice z6a z6n z6c] H3 = (rv, rH)) : callInf cfg 40 [.slice x0a x0n x0c] prot H = some (rv, rH) :=
  fn_of2 a40 [.r (.slice x10a x10n x10c) H1, .r (.tuple #[.slice x14aa x14an x14ac, .int .i64 x14b]) H2, .e, .e, .lo (.exit 0, [.slice z6a z6n z6c], H3)] (ai h1 (ai h2 (ai h3 (ai h4 (ai h5 (ai h6 (ai h7 h8))))))) (by kernel_rfl) rfl
theorem f40_L0_0 {x0a : Option Addr} {x0n x0c : Nat} {x3a : Option Addr} {x3n x3c : Nat} {x4a : Option Addr} {x4n x4c : Nat} {x6a : Option Addr} {x6n x6c : Nat} {x20 x21 : Int} {H0 : AHeap} {prot : Nat} {H : AHeap} {x27p x27o x27l : Nat} {x28 : Int} {x32p x32o x32l : Nat} {x33 : Int} {x34p x34o x34l : Nat} {x35 : Array Value} {x38p x38o x38l : Nat} {x39 : Int} {x40 : Array Value} {x41p x41o x41l : Nat} {H2 : AHeap} {z0a : Option Addr} {z0n z0c : Nat} {z3a : Option Addr} {z3n z3c : Nat} {z4a : Option Addr} {z4n z4c : Nat} {z6a : Option Addr} {z6n z6c : Nat} {z20 z21 : Int} {H3 : AHeap} (h1 : x21 < x20) (h2 : aindexAddr cfg.P 34 (Value.slice x4a x4n x4c) (Value.int .i64 x21) = some (Value.pointer (some ⟨x27p, x27o, some x27l⟩))) (h3 : getCells H x27p x27l x27o 1 = some [Value.int .i64 x28]) (h4 : aindexAddr cfg.P 34 (Value.slice x4a x4n x4c) (Value.int .i64 x21) = some (Value.pointer (some ⟨x32p, x32o, some x32l⟩))) (h5 : getCells H x32p x32l x32o 1 = some [Value.int .i64 x33]) (h6 : aindexAddr cfg.P 46 (Value.slice x6a x6n x6c) (Value.int .i64 x33) = some (Value.pointer (some ⟨x34p, x34o, some x34l⟩))) (h7 : getCells H x34p x34l x34o 8 = some x35.toList) (h8 : aindexAddr cfg.P 34 (Value.slice x4a x4n x4c) (Value.int .i64 x21) = some (Value.pointer (some ⟨x38p, x38o, some x38l⟩))) (h9 : getCells H x38p x38l x38o 1 = some [Value.int .i64 x39]) (h10 : callInf cfg 38 [Value.agg x35, Value.int .i64 x39] (List.length H0) H = some (Value.agg x40, H)) (h11 : aindexAddr cfg.P 46 (Value.slice x6a x6n x6c) (Value.int .i64 x28) = some (Value.pointer (some ⟨x41p, x41o, some x41l⟩))) (h12 : x40.toList.length = 8) (h13 : setCells H (List.length H0) x41p x41l x41o x40.toList = some H2) (h14 : lpInf (lpOf cfg a40 1 prot H0) ([Value.slice x0a x0n x0c, Value.slice x3a x3n x3c, Value.slice x4a x4n x4c, Value.slice x6a x6n x6c, Value.int .i64 x21, Value.int .i64 x20, Value.int .i64 x21, Value.int .i64 (↑x0n : Int), Value.int .i64 0], H2) = some (Ex.exit 2, [Value.slice z0a z0n z0c, Value.slice z3a z3n z3c, Value.slice z4a z4n z4c, Value.slice z6a z6n z6c, Value.int .i64 z20, Value.int .i64 z21], H3)) (h15 : Fit .i64 (z21 + 1)) : lpOf cfg a40 0 prot H0 ([.slice x0a x0n x0c, .slice x3a x3n x3c, .slice x4a x4n x4c, .slice x6a x6n x6c, .int .i64 x20, .int .i64 x21], H) = some (Sum.inl ([Value.slice z0a z0n z0c, Value.slice z3a z3n z3c, Value.slice z4a z4n z4c, Value.slice z6a z6n z6c, Value.int .i64 z20, Value.int .i64 (z21 + 1)], H3)) :=
  lp_of2 [.e, .b true, .v (.pointer (some ⟨x27p, x27o, some x27l⟩)), .v (.int .i64 x28), .v (.pointer (some ⟨x32p, x32o, some x32l⟩)), .v (.int .i64 x33), .v (.pointer (some ⟨x34p, x34o, some x34l⟩)), .v (.agg x35), .v (.pointer (some ⟨x38p, x38o, some x38l⟩)), .v (.int .i64 x39), .v (.agg x40), .v (.pointer (some ⟨x41p, x41o, some x41l⟩)), .h H2, .e, .lo (.exit 2, [.slice z0a z0n z0c, .slice z3a z3n z3c, .slice z4a z4n z4c, .slice z6a z6n z6c, .int .i64 z20, .int .i64 z21], H3), .e] (ai (decide_eq_true h1) (ai h2 (ai h3 (ai h4 (ai h5 (ai h6 (ai h7 (ai h8 (ai h9 (ai h10 (ai h11 (ai h12 (ai h13 (ai h14 (ai h15 (Eq.refl (Sum.inl ([Value.slice z0a z0n z0c, Value.slice z3a z3n z3c, Value.slice z4a z4n z4c, Value.slice z6a z6n z6c, Value.int .i64 z20, Value.int .i64 (z21 + 1)], H3) : LS ⊕ LO))))))))))))))))) (by kernel_rfl)
theorem f40_L0_1 {x0a : Option Addr} {x0n x0c : Nat} {x3a : Option Addr} {x3n x3c : Nat} {x4a : Option Addr} {x4n x4c : Nat} {x6a : Option Addr} {x6n x6c : Nat} {x20 x21 : Int} {H0 : AHeap} {prot : Nat} {H : AHeap} (h1 : ¬(x21 < x20)) : lpOf cfg a40 0 prot H0 ([.slice x0a x0n x0c, .slice x3a x3n x3c, .slice x4a x4n x4c, .slice x6a x6n x6c, .int .i64 x20, .int .i64 x21], H) = some (Sum.inr (Ex.exit 0, [Value.slice x6a x6n x6c], H)) :=
  lp_of2 [.e, .b false] (ai (decide_eq_false h1) (Eq.refl (Sum.inr (Ex.exit 0, [Value.slice x6a x6n x6c], H) : LS ⊕ LO))) (by kernel_rfl)
theorem f40_L1_0 {x0a : Option Addr} {x0n x0c : Nat} {x3a : Option Addr} {x3n x3c : Nat} {x4a : Option Addr} {x4n x4c : Nat} {x6a : Option Addr} {x6n x6c : Nat} {x7 x20 x21 x43 x44 : Int} {H0 : AHeap} {prot : Nat} {H : AHeap} {x49p x49o x49l x50p x50o x50l : Nat} {x54 : Bool} {x58p x58o x58l : Nat} {x59 : Int} {x63p x63o x63l : Nat} {x64 : Int} {x65p x65o x65l : Nat} {x66 : Array Value} {x69p x69o x69l : Nat} {x70 : Int} {x71 : Array Value} {x72p x72o x72l : Nat} {H2 : AHeap} (h1 : x44 < x43) (h2 : aindexAddr cfg.P 65 (Value.slice x3a x3n x3c) (Value.int .i64 x7) = some (Value.pointer (some ⟨x49p, x49o, some x49l⟩))) (h3 : getCells H x49p x49l x49o 1 = some [Value.pointer (some ⟨x50p, x50o, some x50l⟩)]) (h4 : 0 ≤ x44) (h5 : x44 < (↑512 : Int)) (h6 : getCells H x50p x50l (x50o + x44.toNat * 1) 1 = some [Value.bool x54]) (h7 : x54 = true) (h8 : aindexAddr cfg.P 34 (Value.slice x4a x4n x4c) (Value.int .i64 x7) = some (Value.pointer (some ⟨x58p, x58o, some x58l⟩))) (h9 : getCells H x58p x58l x58o 1 = some [Value.int .i64 x59]) (h10 : aindexAddr cfg.P 34 (Value.slice x4a x4n x4c) (Value.int .i64 x7) = some (Value.pointer (some ⟨x63p, x63o, some x63l⟩))) (h11 : getCells H x63p x63l x63o 1 = some [Value.int .i64 x64]) (h12 : aindexAddr cfg.P 46 (Value.slice x6a x6n x6c) (Value.int .i64 x64) = some (Value.pointer (some ⟨x65p, x65o, some x65l⟩))) (h13 : getCells H x65p x65l x65o 8 = some x66.toList) (h14 : aindexAddr cfg.P 34 (Value.slice x4a x4n x4c) (Value.int .i64 x44) = some (Value.pointer (some ⟨x69p, x69o, some x69l⟩))) (h15 : getCells H x69p x69l x69o 1 = some [Value.int .i64 x70]) (h16 : callInf cfg 38 [Value.agg x66, Value.int .i64 x70] (List.length H0) H = some (Value.agg x71, H)) (h17 : aindexAddr cfg.P 46 (Value.slice x6a x6n x6c) (Value.int .i64 x59) = some (Value.pointer (some ⟨x72p, x72o, some x72l⟩))) (h18 : x71.toList.length = 8) (h19 : setCells H (List.length H0) x72p x72l x72o x71.toList = some H2) (h20 : Fit .i64 (x44 + 1)) : lpOf cfg a40 1 prot H0 ([.slice x0a x0n x0c, .slice x3a x3n x3c, .slice x4a x4n x4c, .slice x6a x6n x6c, .int .i64 x7, .int .i64 x20, .int .i64 x21, .int .i64 x43, .int .i64 x44], H) = some (Sum.inl ([Value.slice x0a x0n x0c, Value.slice x3a x3n x3c, Value.slice x4a x4n x4c, Value.slice x6a x6n x6c, Value.int .i64 x7, Value.int .i64 x20, Value.int .i64 x21, Value.int .i64 x43, Value.int .i64 (x44 + 1)], H2)) :=
  lp_of2 [.e, .b true, .v (.pointer (some ⟨x49p, x49o, some x49l⟩)), .v (.pointer (some ⟨x50p, x50o, some x50l⟩)), .e, .v (.bool x54), .b true, .v (.pointer (some ⟨x58p, x58o, some x58l⟩)), .v (.int .i64 x59), .v (.pointer (some ⟨x63p, x63o, some x63l⟩)), .v (.int .i64 x64), .v (.pointer (some ⟨x65p, x65o, some x65l⟩)), .v (.agg x66), .v (.pointer (some ⟨x69p, x69o, some x69l⟩)), .v (.int .i64 x70), .v (.agg x71), .v (.pointer (some ⟨x72p, x72o, some x72l⟩)), .h H2, .e] (ai (decide_eq_true h1) (ai h2 (ai h3 (ai h4 (ai h5 (ai h6 (ai h7 (ai h8 (ai h9 (ai h10 (ai h11 (ai h12 (ai h13 (ai h14 (ai h15 (ai h16 (ai h17 (ai h18 (ai h19 (ai h20 (Eq.refl (Sum.inl ([Value.slice x0a x0n x0c, Value.slice x3a x3n x3c, Value.slice x4a x4n x4c, Value.slice x6a x6n x6c, Value.int .i64 x7, Value.int .i64 x20, Value.int .i64 x21, Value.int .i64 x43, Value.int .i64 (x44 + 1)], H2) : LS ⊕ LO)))))))))))))))))))))) (by kernel_rfl)
theorem f40_L1_1 {x0a : Option Addr} {x0n x0c : Nat} {x3a : Option Addr} {x3n x3c : Nat} {x4a : Option Addr} {x4n x4c : Nat} {x6a : Option Addr} {x6n x6c : Nat} {x7 x20 x21 x43 x44 : Int} {H0 : AHeap} {prot : Nat} {H : AHeap} {x49p x49o x49l x50p x50o x50l : Nat} {x54 : Bool} (h1 : x44 < x43) (h2 : aindexAddr cfg.P 65 (Value.slice x3a x3n x3c) (Value.int .i64 x7) = some (Value.pointer (some ⟨x49p, x49o, some x49l⟩))) (h3 : getCells H x49p x49l x49o 1 = some [Value.pointer (some ⟨x50p, x50o, some x50l⟩)]) (h4 : 0 ≤ x44) (h5 : x44 < (↑512 : Int)) (h6 : getCells H x50p x50l (x50o + x44.toNat * 1) 1 = some [Value.bool x54]) (h7 : x54 = false) (h8 : Fit .i64 (x44 + 1)) : lpOf cfg a40 1 prot H0 ([.slice x0a x0n x0c, .slice x3a x3n x3c, .slice x4a x4n x4c, .slice x6a x6n x6c, .int .i64 x7, .int .i64 x20, .int .i64 x21, .int .i64 x43, .int .i64 x44], H) = some (Sum.inl ([Value.slice x0a x0n x0c, Value.slice x3a x3n x3c, Value.slice x4a x4n x4c, Value.slice x6a x6n x6c, Value.int .i64 x7, Value.int .i64 x20, Value.int .i64 x21, Value.int .i64 x43, Value.int .i64 (x44 + 1)], H)) :=
  lp_of2 [.e, .b true, .v (.pointer (some ⟨x49p, x49o, some x49l⟩)), .v (.pointer (some ⟨x50p, x50o, some x50l⟩)), .e, .v (.bool x54), .b false, .e] (ai (decide_eq_true h1) (ai h2 (ai h3 (ai h4 (ai h5 (ai h6 (ai h7 (ai h8 (Eq.refl (Sum.inl ([Value.slice x0a x0n x0c, Value.slice x3a x3n x3c, Value.slice x4a x4n x4c, Value.slice x6a x6n x6c, Value.int .i64 x7, Value.int .i64 x20, Value.int .i64 x21, Value.int .i64 x43, Value.int .i64 (x44 + 1)], H) : LS ⊕ LO)))))))))) (by kernel_rfl)
theorem f40_L1_2 {x0a : Option Addr} {x0n x0c : Nat} {x3a : Option Addr} {x3n x3c : Nat} {x4a : Option Addr} {x4n x4c : Nat} {x6a : Option Addr} {x6n x6c : Nat} {x7 x20 x21 x43 x44 : Int} {H0 : AHeap} {prot : Nat} {H : AHeap} (h1 : ¬(x44 < x43)) : lpOf cfg a40 1 prot H0 ([.slice x0a x0n x0c, .slice x3a x3n x3c, .slice x4a x4n x4c, .slice x6a x6n x6c, .int .i64 x7, .int .i64 x20, .int .i64 x21, .int .i64 x43, .int .i64 x44], H) = some (Sum.inr (Ex.exit 2, [Value.slice x0a x0n x0c, Value.slice x3a x3n x3c, Value.slice x4a x4n x4c, Value.slice x6a x6n x6c, Value.int .i64 x20, Value.int .i64 x21], H)) :=
  lp_of2 [.e, .b false] (ai (decide_eq_false h1) (Eq.refl (Sum.inr (Ex.exit 2, [Value.slice x0a x0n x0c, Value.slice x3a x3n x3c, Value.slice x4a x4n x4c, Value.slice x6a x6n x6c, Value.int .i64 x20, Value.int .i64 x21], H) : LS ⊕ LO))) (by kernel_rfl)
end Go.Proofs.Ytkemihfaohkoeaa.Am11
set_option linter.unusedVariables false
open Go Go.Proofs.Ytkemihfaohkoeaa.Am
namespace Go.Proofs.Ytkemihfaohkoeaa.Am11
theorem f22_F_0 {x0a : Option Addr} {x0n x0c : Nat} {H : AHeap} {prot : Nat} {x6 : Int} (h1 : callInf cfg 25 [Value.slice x0a x0n x0c] (List.length H) H = some (Value.int .i64 x6, H)) (h2 : (x6 != 0) = true) : callInf cfg 22 [.slice x0a x0n x0c] prot H = some (Value.tuple { toList := [Value.slice none 0 0, Value.int .i64 x6] }, H) :=
  fn_of2 a22 [.v (.int .i64 x6), .e, .b true] (ai h1 (ai h2 (Eq.refl ((Value.tuple { toList := [Value.slice none 0 0, Value.int .i64 x6] }, H) : Value × AHeap)))) (by kernel_rfl) rfl
theorem f22_F_1 {x0a : Option Addr} {x0n x0c : Nat} {H : AHeap} {prot : Nat} {x6 : Int} {x11a : Option Addr} {x11n x11c : Nat} {H1 : AHeap} (rv : Value) (rH : AHeap) (h1 : callInf cfg 25 [Value.slice x0a x0n x0c] (List.length H) H = some (Value.int .i64 x6, H)) (h2 : (x6 != 0) = false) (h3 : callInf cfg 40 [Value.slice x0a x0n x0c] (List.length H) H = some (Value.slice x11a x11n x11c, H1)) (h4 : pfin a22 H [Value.slice x11a x11n x11c, Value.int .i64 0] H1 = (rv, rH)) : callInf cfg 22 [.slice x0a x0n x0c] prot H = some (rv, rH) :=
  fn_of2 a22 [.v (.int .i64 x6), .e, .b false, .r (.slice x11a x11n x11c) H1] (ai h1 (ai h2 (ai h3 h4))) (by kernel_rfl) rfl
end Go.Proofs.Ytkemihfaohkoeaa.Am11
namespace Go.Proofs.Ytkemihfaohkoeaa.Am11
open Go Go.Proofs.Ytkemihfaohkoeaa.Am
theorem T46 : ElemT cfg.P 46 39 8 64 := ⟨by kernel_rfl, by kernel_rfl, by kernel_rfl, ⟨.agg #[.int .u64 0, .int .u64 0, .int .u64 0, .int .u64 0, .int .u64 0, .int .u64 0, .int .u64 0, .int .u64 0], by kernel_rfl, rfl⟩, by kernel_rfl, by omega, by omega⟩
theorem comp_get {G : List (List Int)} {v : Nat} (hv : v < G.length) : (il (nl (comp G).1))[v]? = some (.int .i64 ((Lc G v : Nat) : Int)) := by
  have hl := (comp_ok G).l
  unfold il nl Lc
  rw [List.getElem?_map, List.getElem?_map, List.getElem?_eq_getElem (by omega), List.getD_eq_getElem?_getD, List.getElem?_eq_getElem (by omega)]
  rfl
/-- One set is read; one is written. -/
theorem sets_at {H : AHeap} {x : Value} {o n : Nat} {A : Nat → Nat → Bool} (h : Own H 39 8 x (some o) n (sets A n)) {k : Nat} (hk : k < n) :
    aindexAddr cfg.P 46 x (.int .i64 (k : Nat)) = some (.pointer (some ⟨o, k * 8, some (sets A n).length⟩)) ∧ getCells H o (sets A n).length (k * 8) 8 = some (setA (A k)).toList := by
  obtain ⟨id, e, a, b⟩ := own_atS T46 h hk
  cases e
  have := b 0 8 (Nat.le_refl _)
  rw [Nat.add_zero, sets_get A n hk] at this
  exact ⟨a, this⟩
theorem sets_set {H : AHeap} {x : Value} {o n : Nat} {A : Nat → Nat → Bool} (h : Own H 39 8 x (some o) n (sets A n)) {k : Nat} (hk : k < n) (T : Nat → Bool) {prot : Nat} (hp : prot ≤ o) :
    ∃ H', setCells H prot o (sets A n).length (k * 8) (setA T).toList = some H' ∧ Own H' 39 8 x (some o) n (sets (fun c => if c = k then T else A c) n) ∧ Stay (some o) H H' := by
  obtain ⟨id, H', e, a, b, c, d, _⟩ := own_setS T46 h hk (j := 0) (vs := setL T) (by rw [setL_len]; omega) (setL_cell T) (prot := prot) (fun id e => by cases e; exact hp)
  cases e
  rw [sets_put A T n hk] at c
  exact ⟨H', b, c, d⟩

theorem loop40i {G : List (List Int)} (hG : Good G) {G0 : AHeap} {x0 x3 x4 x6 : Value} (hx0 : ∃ a c, x0 = .slice a G.length c) (hw : WL G G0 x3) (hx3 : ∃ a c, x3 = .slice a G.length c) (h4 : Rd G0 3 1 x4 G.length (il (nl (comp G).1))) {o : Nat} (ho : G0.length ≤ o) {H0 : AHeap} (hp : H0.length ≤ o) {prot : Nat} {p q : Int} {v : Nat} (hv : v < G.length) {B : Nat → Nat → Prop} : ∀ (d i : Nat) (A : Nat → Nat → Bool) (H : AHeap), i + d = G.length → Stay none G0 H → Own H 39 8 x6 (some o) (comp G).2 (sets A (comp G).2) →
    (∀ c e, A c e = true ↔ B c e ∨ (c = Lc G v ∧ ∃ u, u < i ∧ Rch G v u ∧ e = Lc G u)) →
    ∃ A' H', lpInf (lpOf cfg a40 1 prot H0) ([x0, x3, x4, x6, .int .i64 v, .int .i64 p, .int .i64 q, .int .i64 G.length, .int .i64 i], H) = some (.exit 2, [x0, x3, x4, x6, .int .i64 p, .int .i64 q], H') ∧ Own H' 39 8 x6 (some o) (comp G).2 (sets A' (comp G).2) ∧
      (∀ c e, A' c e = true ↔ B c e ∨ (c = Lc G v ∧ ∃ u, u < G.length ∧ Rch G v u ∧ e = Lc G u)) ∧ Stay (some o) H H'
  | 0, i, A, H, hi, hst, hx, hA => by
    have he : i = G.length := by omega
    subst he
    refine ⟨A, H, ?_, hx, hA, Stay.refl _ _⟩
    obtain ⟨_, _, rfl⟩ := hx0
    obtain ⟨_, _, rfl⟩ := hx3
    obtain ⟨_, _, rfl⟩ := h4.len
    obtain ⟨_, _, rfl⟩ := hx.len
    exact lp_last (f40_L1_2 (by omega))
  | d + 1, i, A, H, hi, hst, hx, hA => by
    have h512 := hG.1
    have hil : i < G.length := by omega
    have hn := comp_n G
    obtain ⟨id, L, p1, b, a1, a2, a3, a4⟩ := (hw.stay hst).at hv (show i < 512 by omega)
    have fi : Fit .i64 ((i : Int) + 1) := fit64 (by omega) (by omega)
    have hk := Lc_lt hv
    have hk2 := Lc_lt hil
    cases hbv : b with
    | true =>
      rw [hbv] at a3 a4
      obtain ⟨i2, L2, b1, b2⟩ := rd_at T34 (h4.stay hst) (comp_get hv)
      obtain ⟨i3, L3, c1, c2⟩ := rd_at T34 (h4.stay hst) (comp_get hil)
      obtain ⟨d1, d2⟩ := sets_at hx hk
      have h38 := c38 (S := A (Lc G v)) (show Lc G i < 512 by omega) H0.length H
      obtain ⟨H2, e1, e2, e3⟩ := sets_set hx hk (addS (A (Lc G v)) (Lc G i)) hp
      obtain ⟨A', H', z1, z2, z3, z4⟩ := loop40i hG hx0 hw hx3 h4 ho hp (prot := prot) (p := p) (q := q) hv (B := B) d (i + 1) _ H2 (by omega) (hst.over e3 (fun id e => by cases e; exact ho)) e2 (fun c e => by
        have hr := a4.1 rfl
        by_cases hc : c = Lc G v
        · subst hc
          rw [if_pos rfl]
          unfold addS
          rw [Bool.or_eq_true, decide_eq_true_eq, hA]
          constructor
          · rintro ((h | ⟨_, u, h1, h2, h3⟩) | h)
            · exact .inl h
            · exact .inr ⟨rfl, u, by omega, h2, h3⟩
            · exact .inr ⟨rfl, i, by omega, hr, h⟩
          · rintro (h | ⟨_, u, h1, h2, h3⟩)
            · exact .inl (.inl h)
            · by_cases e0 : u = i
              · subst e0; exact .inr h3
              · exact .inl (.inr ⟨rfl, u, by omega, h2, h3⟩)
        · rw [if_neg hc, hA]
          simp [hc])
      refine ⟨A', H', ?_, z2, z3, e3.trans z4⟩
      obtain ⟨_, _, rfl⟩ := hx0
      obtain ⟨_, _, rfl⟩ := hx3
      obtain ⟨_, _, rfl⟩ := h4.len
      obtain ⟨_, _, rfl⟩ := hx.len
      exact lp_next (f40_L1_0 (x66 := setA (A (Lc G v))) (x71 := setA (addS (A (Lc G v)) (Lc G i))) (by omega) a1 a2 (by omega) (by omega) a3 rfl b1 b2 b1 b2 d1 d2 c1 c2 h38 d1 (setL_len _) e1 fi) z1
    | false =>
      rw [hbv] at a3 a4
      obtain ⟨A', H', z1, z2, z3, z4⟩ := loop40i hG hx0 hw hx3 h4 ho hp (prot := prot) (p := p) (q := q) hv (B := B) d (i + 1) A H (by omega) hst hx (fun c e => by
        have hr : ¬ Rch G v i := fun h => by have := a4.2 h; cases this
        rw [hA]
        constructor
        · rintro (h | ⟨h0, u, h1, h2, h3⟩)
          · exact .inl h
          · exact .inr ⟨h0, u, by omega, h2, h3⟩
        · rintro (h | ⟨h0, u, h1, h2, h3⟩)
          · exact .inl h
          · by_cases e0 : u = i
            · subst e0; exact absurd h2 hr
            · exact .inr ⟨h0, u, by omega, h2, h3⟩)
      refine ⟨A', H', ?_, z2, z3, z4⟩
      obtain ⟨_, _, rfl⟩ := hx0
      obtain ⟨_, _, rfl⟩ := hx3
      obtain ⟨_, _, rfl⟩ := h4.len
      obtain ⟨_, _, rfl⟩ := hx.len
      exact lp_next (f40_L1_1 (by omega) a1 a2 (by omega) (by omega) a3 rfl fi) z1

/-- What the first vertices' components reach. -/
def AbvTo (G : List (List Int)) (v c d : Nat) : Prop := ∃ w u, w < v ∧ u < G.length ∧ Lc G w = c ∧ Lc G u = d ∧ RQ G w u
theorem loop40o {G : List (List Int)} (hG : Good G) {G0 : AHeap} {x0 x3 x4 x6 : Value} (hx0 : ∃ a c, x0 = .slice a G.length c) (hw : WL G G0 x3) (hx3 : ∃ a c, x3 = .slice a G.length c) (h4 : Rd G0 3 1 x4 G.length (il (nl (comp G).1))) {o : Nat} (ho : G0.length ≤ o) {H0 : AHeap} (hp : H0.length ≤ o) {prot : Nat} : ∀ (d v : Nat) (A : Nat → Nat → Bool) (H : AHeap), v + d = G.length → Stay none G0 H → Own H 39 8 x6 (some o) (comp G).2 (sets A (comp G).2) → (∀ c e, A c e = true ↔ AbvTo G v c e) →
    ∃ A' H', lpInf (lpOf cfg a40 0 prot H0) ([x0, x3, x4, x6, .int .i64 G.length, .int .i64 v], H) = some (.exit 0, [x6], H') ∧ Own H' 39 8 x6 (some o) (comp G).2 (sets A' (comp G).2) ∧ (∀ c e, A' c e = true ↔ AbvTo G G.length c e) ∧ Stay (some o) H H'
  | 0, v, A, H, hi, hst, hx, hA => by
    have he : v = G.length := by omega
    subst he
    refine ⟨A, H, ?_, hx, hA, Stay.refl _ _⟩
    obtain ⟨_, _, rfl⟩ := hx0
    obtain ⟨_, _, rfl⟩ := hx3
    obtain ⟨_, _, rfl⟩ := h4.len
    obtain ⟨_, _, rfl⟩ := hx.len
    exact lp_last (f40_L0_1 (by omega))
  | d + 1, v, A, H, hi, hst, hx, hA => by
    have h512 := hG.1
    have hv : v < G.length := by omega
    have hn := comp_n G
    have hk := Lc_lt hv
    obtain ⟨i2, L2, b1, b2⟩ := rd_at T34 (h4.stay hst) (comp_get hv)
    obtain ⟨d1, d2⟩ := sets_at hx hk
    have h38 := c38 (S := A (Lc G v)) (show Lc G v < 512 by omega) H0.length H
    obtain ⟨H2, e1, e2, e3⟩ := sets_set hx hk (addS (A (Lc G v)) (Lc G v)) hp
    have hst2 := hst.over e3 (fun id e => by cases e; exact ho)
    obtain ⟨A1, H3, y1, y2, y3, y4⟩ := loop40i hG hx0 hw hx3 h4 ho hp (prot := prot) (p := (G.length : Int)) (q := (v : Int)) hv (B := fun c e => AbvTo G v c e ∨ (c = Lc G v ∧ e = Lc G v)) G.length 0 _ H2 (by omega) hst2 e2 (fun c e => by
      by_cases hc : c = Lc G v
      · subst hc
        rw [if_pos rfl]
        unfold addS
        rw [Bool.or_eq_true, decide_eq_true_eq, hA]
        simp
      · rw [if_neg hc, hA]
        simp [hc])
    obtain ⟨A', H', z1, z2, z3, z4⟩ := loop40o hG hx0 hw hx3 h4 ho hp (prot := prot) d (v + 1) A1 H3 (by omega) (hst2.over y4 (fun id e => by cases e; exact ho)) y2 (fun c e => by
      rw [y3]
      constructor
      · rintro ((⟨w, u, h1, h2, h3, h4, h5⟩ | ⟨rfl, rfl⟩) | ⟨rfl, u, h1, h2, rfl⟩)
        · exact ⟨w, u, by omega, h2, h3, h4, h5⟩
        · exact ⟨v, v, by omega, hv, rfl, rfl, .inl rfl⟩
        · exact ⟨v, u, by omega, h1, rfl, rfl, .inr h2⟩
      · rintro ⟨w, u, h1, h2, h3, h4, h5⟩
        by_cases e0 : w = v
        · subst e0
          rcases h5 with rfl | h5
          · exact .inl (.inr ⟨h3.symm, h4.symm⟩)
          · exact .inr ⟨h3.symm, u, h2, h5, h4.symm⟩
        · exact .inl (.inl ⟨w, u, by omega, h2, h3, h4, h5⟩))
    refine ⟨A', H', ?_, z2, z3, (e3.trans y4).trans z4⟩
    obtain ⟨_, _, rfl⟩ := hx0
    obtain ⟨_, _, rfl⟩ := hx3
    obtain ⟨_, _, rfl⟩ := h4.len
    obtain ⟨_, _, rfl⟩ := hx.len
    exact lp_next (f40_L0_0 (x35 := setA (A (Lc G v))) (x40 := setA (addS (A (Lc G v)) (Lc G v))) (by omega) b1 b2 b1 b2 d1 d2 b1 b2 h38 d1 (setL_len _) e1 y1 (fit64 (by omega) (by omega))) z1

theorem c40 {G : List (List Int)} (hG : Good G) {vG : Value} (prot : Nat) {H : AHeap} (hg : Gr H vG G) : ∃ x' H', callInf cfg 40 [vG] prot H = some (x', H') ∧ OwnS H' 39 8 x' (comp G).2 (sets (abv G) (comp G).2) H.length ∧ Stay none H H' := by
  have h5 := hG.1
  have hn := comp_n G
  obtain ⟨a, c, H1, w1, w2, w3⟩ := c37 hG H.length hg
  obtain ⟨y, H2, n1, n2, n3, n4⟩ := c36 hG H.length (hg.stay w3) w2 ⟨a, c, rfl⟩
  obtain ⟨z8, hz8⟩ : ∃ z8 : List Value, z8 = [.int .u64 0, .int .u64 0, .int .u64 0, .int .u64 0, .int .u64 0, .int .u64 0, .int .u64 0, .int .u64 0] := ⟨_, rfl⟩
  have hz : z8 = List.replicate 8 (.int .u64 0) := by rw [hz8]; rfl
  obtain ⟨H3, hH3⟩ : ∃ H3, H3 = H2 ++ [AObj.cells (repCells z8 (comp G).2) 39 (repCells z8 (comp G).2).length .row] := ⟨_, rfl⟩
  have s3 : Stay none H2 H3 := by rw [hH3]; exact Stay.app none H2 _
  have hlen : H.length ≤ H2.length := Nat.le_trans w3.1 n4.1
  obtain ⟨ax, cx, hye⟩ := n2.rd.len
  have key : ∃ x6 H4, lpInf (lpOf cfg a40 0 prot H) ([vG, .slice a G.length c, y, .slice (some ⟨H2.length, 0, some ((comp G).2 * 8)⟩) (comp G).2 (comp G).2, .int .i64 G.length, .int .i64 0], H3) = some (.exit 0, [x6], H4) ∧ OwnS H4 39 8 x6 (comp G).2 (sets (abv G) (comp G).2) H.length := by
    by_cases h0 : 0 < (comp G).2
    · have m : Own H3 39 8 (.slice (some ⟨H2.length, 0, some ((comp G).2 * 8)⟩) (comp G).2 (comp G).2) (some H2.length) (comp G).2 (sets (fun _ => noS) (comp G).2) := by
        rw [sets_no, ← hz, hH3]
        have hl : (repCells z8 (comp G).2).length = (comp G).2 * 8 := by rw [hz, ← sets_no, sets_len]
        exact own_new hl h0 hl.symm rfl
      obtain ⟨A', H4, z1, z2, z3, z4⟩ := loop40o hG hg.len (w2.stay n4) ⟨a, c, rfl⟩ n2.rd (Nat.le_refl _) (H0 := H) hlen (prot := prot) G.length 0 _ H3 (by omega) s3 m (fun c e => by
        constructor
        · intro h; cases h
        · rintro ⟨w, u, h1, _⟩; omega)
      refine ⟨_, H4, z1, .inl ⟨some H2.length, ?_, fun id e => by cases e; exact hlen⟩⟩
      rw [sets_congr (A := abv G) (B := A') _ (fun c _ i _ => by rw [Bool.eq_iff_iff, abv_iff, z3]; rfl)]
      exact z2
    · have hn0 : (comp G).2 = 0 := by omega
      have hG0 : G = [] := List.eq_nil_of_length_eq_zero (by
        rcases Nat.eq_zero_or_pos G.length with h | h
        · exact h
        · have := Lc_lt h; omega)
      rw [hn0] at hH3 ⊢
      subst hG0
      obtain ⟨aG, cG, rfl⟩ := hg.len
      subst hye
      refine ⟨_, H3, lp_last (f40_L0_1 (by decide)), .inr ⟨rfl, rfl, H2.length, rfl, hlen, ?_⟩⟩
      rw [hH3]
      exact append_get.1
  obtain ⟨x6, H4, z1, z2⟩ := key
  obtain ⟨x', H', g1, g2, g3⟩ := gcS z2 (sets_plain _ _) (ps := []) rfl
  refine ⟨x', H', ?_, g2, g3⟩
  obtain ⟨aG, cG, rfl⟩ := hg.len
  subst hye
  obtain ⟨_, _, rfl⟩ := z2.rd.len
  subst hH3; subst hz8
  exact f40_F_0 _ _ w1 n1 (by omega) rfl (by omega) (by omega) z1 (by rw [pfin_eq, if_neg (by simp [a40])]; exact g1)

theorem c22 {G : List (List Int)} (hs : Short G) {vG : Value} (prot : Nat) {H : AHeap} (hg : Gr H vG G) :
    (chk G ≠ 0 ∧ callInf cfg 22 [vG] prot H = some (.tuple #[.slice none 0 0, .int .i64 (chk G)], H)) ∨
    (chk G = 0 ∧ ∃ x' H', callInf cfg 22 [vG] prot H = some (.tuple #[x', .int .i64 0], H') ∧ OwnS H' 39 8 x' (comp G).2 (sets (abv G) (comp G).2) H.length ∧ Stay none H H') := by
  have h25 := c25 hs H.length hg
  have hgl := hg.len
  by_cases h : chk G = 0
  · refine .inr ⟨h, ?_⟩
    have hG := good_of hs h
    obtain ⟨y, H1, w1, w2, w3⟩ := c40 hG H.length hg
    obtain ⟨x', H', g1, g2, g3⟩ := gcS (H := H) w2 (sets_plain _ _) (ps := [.int .i64 0]) rfl
    refine ⟨x', H', ?_, g2, g3⟩
    obtain ⟨aG, cG, rfl⟩ := hgl
    obtain ⟨ay, cy, rfl⟩ := w2.rd.len
    exact f22_F_1 _ _ h25 (by simp [h]) w1 (by rw [pfin_eq, if_neg (by simp [a22])]; exact g1)
  · refine .inl ⟨h, ?_⟩
    obtain ⟨aG, cG, rfl⟩ := hgl
    exact f22_F_0 h25 (by simpa using h)
end Go.Proofs.Ytkemihfaohkoeaa.Am11
set_option linter.unusedVariables false
open Go Go.Proofs.Ytkemihfaohkoeaa.Am
namespace Go.Proofs.Ytkemihfaohkoeaa.Am11
theorem f7_F_2 {x0a : Option Addr} {x0n x0c : Nat} {x1 x2 : Int} {H : AHeap} {prot : Nat} {x15a : Option Addr} {x15n x15c : Nat} {H1 : AHeap} {x18aa : Option Addr} {x18an x18ac : Nat} {x18b : Int} {H2 : AHeap} {x23aa : Option Addr} {x23an x23ac : Nat} {x23b x23c : Int} {H3 : AHeap} {x28 x30 : Int} {x40 : Bool} (h1 : callInf cfg 17 [Value.slice x0a x0n x0c] (List.length H) H = some (Value.slice x15a x15n x15c, H1)) (h2 : callInf cfg 22 [Value.slice x15a x15n x15c] (List.length H) H1 = some (Value.tuple { toList := [Value.slice x18aa x18an x18ac, Value.int .i64 x18b] }, H2)) (h3 : callInf cfg 18 [Value.slice x15a x15n x15c] (List.length H) H2 = some (Value.tuple { toList := [Value.slice x23aa x23an x23ac, Value.int .i64 x23b, Value.int .i64 x23c] }, H3)) (h4 : callInf cfg 13 [Value.int .i64 x18b] (List.length H) H3 = some (Value.int .i64 x28, H3)) (h5 : callInf cfg 13 [Value.int .i64 x23c] (List.length H) H3 = some (Value.int .i64 x30, H3)) (h6 : Fit .i64 (x28 + x30)) (h7 : (x28 + x30 != 0) = false) (h8 : ((↑x18an : Int) != x23b) = false) (h9 : callInf cfg 16 [] (List.length H) H3 = some (Value.bool x40, H3)) (h10 : (!x40) = false) (h11 : (x23b == 0) = true) : callInf cfg 7 [.slice x0a x0n x0c, .int .i64 x1, .int .i64 x2] prot H = some (Value.bool true, H) :=
  fn_of2 a7 [.r (.slice x15a x15n x15c) H1, .r (.tuple #[.slice x18aa x18an x18ac, .int .i64 x18b]) H2, .r (.tuple #[.slice x23aa x23an x23ac, .int .i64 x23b, .int .i64 x23c]) H3, .v (.int .i64 x28), .v (.int .i64 x30), .e, .e, .b false, .b false, .e, .b false, .b false, .e, .b false, .b false, .v (.bool x40), .b false, .e, .b false, .b false, .e, .b true] (ai h1 (ai h2 (ai h3 (ai h4 (ai h5 (ai h6 (ai h7 (ai h7 (ai h7 (ai h7 (ai h7 (ai h8 (ai h9 (ai h8 (ai h8 (ai h10 (ai h11 (Eq.refl ((Value.bool true, H) : Value × AHeap))))))))))))))))))) (by kernel_rfl) rfl
theorem f7_F_4 {x0a : Option Addr} {x0n x0c : Nat} {x1 x2 : Int} {H : AHeap} {prot : Nat} {x15a : Option Addr} {x15n x15c : Nat} {H1 : AHeap} {x18aa : Option Addr} {x18an x18ac : Nat} {x18b : Int} {H2 : AHeap} {x23aa : Option Addr} {x23an x23ac : Nat} {x23b x23c : Int} {H3 : AHeap} {x28 x30 : Int} {x40 : Bool} {x61p x61o x61l : Nat} {x62 : Array Value} {x64 : Bool} {x73p x73o x73l : Nat} {x74 : Array Value} {x76 : Bool} {x81p x81o x81l : Nat} {x82 : Array Value} {x84 : Bool} {z6 : Value} {H4 : AHeap} (h1 : callInf cfg 17 [Value.slice x0a x0n x0c] (List.length H) H = some (Value.slice x15a x15n x15c, H1)) (h2 : callInf cfg 22 [Value.slice x15a x15n x15c] (List.length H) H1 = some (Value.tuple { toList := [Value.slice x18aa x18an x18ac, Value.int .i64 x18b] }, H2)) (h3 : callInf cfg 18 [Value.slice x15a x15n x15c] (List.length H) H2 = some (Value.tuple { toList := [Value.slice x23aa x23an x23ac, Value.int .i64 x23b, Value.int .i64 x23c] }, H3)) (h4 : callInf cfg 13 [Value.int .i64 x18b] (List.length H) H3 = some (Value.int .i64 x28, H3)) (h5 : callInf cfg 13 [Value.int .i64 x23c] (List.length H) H3 = some (Value.int .i64 x30, H3)) (h6 : Fit .i64 (x28 + x30)) (h7 : (x28 + x30 != 0) = false) (h8 : ((↑x18an : Int) != x23b) = false) (h9 : callInf cfg 16 [] (List.length H) H3 = some (Value.bool x40, H3)) (h10 : (!x40) = false) (h11 : (x23b == 0) = false) (h12 : x23b ≠ 0) (h13 : Fit .i64 (x1.tmod x23b + x23b)) (h14 : Fit .i64 (x2.tmod x23b + x23b)) (h15 : aindexAddr cfg.P 46 (Value.slice x18aa x18an x18ac) (Value.int .i64 ((x1.tmod x23b + x23b).tmod x23b)) = some (Value.pointer (some ⟨x61p, x61o, some x61l⟩))) (h16 : getCells H3 x61p x61l x61o 8 = some x62.toList) (h17 : callInf cfg 20 [Value.agg x62, Value.int .i64 ((x1.tmod x23b + x23b).tmod x23b)] (List.length H) H3 = some (Value.bool x64, H3)) (h18 : (!x64) = false) (h19 : ((x1.tmod x23b + x23b).tmod x23b != (x2.tmod x23b + x23b).tmod x23b) = true) (h20 : aindexAddr cfg.P 46 (Value.slice x18aa x18an x18ac) (Value.int .i64 ((x1.tmod x23b + x23b).tmod x23b)) = some (Value.pointer (some ⟨x73p, x73o, some x73l⟩))) (h21 : getCells H3 x73p x73l x73o 8 = some x74.toList) (h22 : callInf cfg 20 [Value.agg x74, Value.int .i64 ((x2.tmod x23b + x23b).tmod x23b)] (List.length H) H3 = some (Value.bool x76, H3)) (h23 : x76 = true) (h24 : aindexAddr cfg.P 46 (Value.slice x18aa x18an x18ac) (Value.int .i64 ((x2.tmod x23b + x23b).tmod x23b)) = some (Value.pointer (some ⟨x81p, x81o, some x81l⟩))) (h25 : getCells H3 x81p x81l x81o 8 = some x82.toList) (h26 : callInf cfg 20 [Value.agg x82, Value.int .i64 ((x1.tmod x23b + x23b).tmod x23b)] (List.length H) H3 = some (Value.bool x84, H3)) (h27 : x84 = false) (h28 : lpInf (lpOf cfg a7 0 prot H) ([Value.int .i64 ((x1.tmod x23b + x23b).tmod x23b), Value.int .i64 ((x2.tmod x23b + x23b).tmod x23b), Value.slice x18aa x18an x18ac, Value.int .i64 x23b, Value.int .i64 0], H3) = some (Ex.exit 0, [z6], H4)) : callInf cfg 7 [.slice x0a x0n x0c, .int .i64 x1, .int .i64 x2] prot H = some (Value.bool true, H) :=
  fn_of2 a7 [.r (.slice x15a x15n x15c) H1, .r (.tuple #[.slice x18aa x18an x18ac, .int .i64 x18b]) H2, .r (.tuple #[.slice x23aa x23an x23ac, .int .i64 x23b, .int .i64 x23c]) H3, .v (.int .i64 x28), .v (.int .i64 x30), .e, .e, .b false, .b false, .e, .b false, .b false, .e, .b false, .b false, .v (.bool x40), .b false, .e, .b false, .b false, .e, .b false, .e, .e, .e, .e, .e, .e, .v (.pointer (some ⟨x61p, x61o, some x61l⟩)), .v (.agg x62), .v (.bool x64), .e, .b false, .b false, .b false, .e, .b false, .b true, .b true, .b true, .v (.pointer (some ⟨x73p, x73o, some x73l⟩)), .b true, .v (.agg x74), .b true, .b true, .v (.bool x76), .b false, .b true, .b false, .b true, .b true, .b true, .v (.pointer (some ⟨x81p, x81o, some x81l⟩)), .b true, .v (.agg x82), .b true, .b true, .v (.bool x84), .b false, .b true, .b false, .b false, .lo (.exit 0, [z6], H4)] (ai h1 (ai h2 (ai h3 (ai h4 (ai h5 (ai h6 (ai h7 (ai h7 (ai h7 (ai h7 (ai h7 (ai h8 (ai h9 (ai h8 (ai h8 (ai h10 (ai h11 (ai h12 (ai h13 (ai h12 (ai h12 (ai h14 (ai h12 (ai h15 (ai h16 (ai h17 (ai h18 (ai h18 (ai h18 (ai h18 (ai h19 (ai h19 (ai h19 (ai h20 (ai h19 (ai h21 (ai h19 (ai h19 (ai h22 (ai h18 (ai h19 (ai h18 (ai h23 (ai h23 (ai h23 (ai h24 (ai h23 (ai h25 (ai h23 (ai h23 (ai h26 (ai h18 (ai h23 (ai h18 (ai h27 (ai h28 (Eq.refl ((Value.bool true, H) : Value × AHeap)))))))))))))))))))))))))))))))))))))))))))))))))))))))))) (by kernel_rfl) rfl
theorem f7_F_6 {x0a : Option Addr} {x0n x0c : Nat} {x1 x2 : Int} {H : AHeap} {prot : Nat} {x15a : Option Addr} {x15n x15c : Nat} {H1 : AHeap} {x18aa : Option Addr} {x18an x18ac : Nat} {x18b : Int} {H2 : AHeap} {x23aa : Option Addr} {x23an x23ac : Nat} {x23b x23c : Int} {H3 : AHeap} {x28 x30 : Int} {x40 : Bool} {x61p x61o x61l : Nat} {x62 : Array Value} {x64 : Bool} {x73p x73o x73l : Nat} {x74 : Array Value} {x76 : Bool} {z6 : Value} {H4 : AHeap} (h1 : callInf cfg 17 [Value.slice x0a x0n x0c] (List.length H) H = some (Value.slice x15a x15n x15c, H1)) (h2 : callInf cfg 22 [Value.slice x15a x15n x15c] (List.length H) H1 = some (Value.tuple { toList := [Value.slice x18aa x18an x18ac, Value.int .i64 x18b] }, H2)) (h3 : callInf cfg 18 [Value.slice x15a x15n x15c] (List.length H) H2 = some (Value.tuple { toList := [Value.slice x23aa x23an x23ac, Value.int .i64 x23b, Value.int .i64 x23c] }, H3)) (h4 : callInf cfg 13 [Value.int .i64 x18b] (List.length H) H3 = some (Value.int .i64 x28, H3)) (h5 : callInf cfg 13 [Value.int .i64 x23c] (List.length H) H3 = some (Value.int .i64 x30, H3)) (h6 : Fit .i64 (x28 + x30)) (h7 : (x28 + x30 != 0) = false) (h8 : ((↑x18an : Int) != x23b) = false) (h9 : callInf cfg 16 [] (List.length H) H3 = some (Value.bool x40, H3)) (h10 : (!x40) = false) (h11 : (x23b == 0) = false) (h12 : x23b ≠ 0) (h13 : Fit .i64 (x1.tmod x23b + x23b)) (h14 : Fit .i64 (x2.tmod x23b + x23b)) (h15 : aindexAddr cfg.P 46 (Value.slice x18aa x18an x18ac) (Value.int .i64 ((x1.tmod x23b + x23b).tmod x23b)) = some (Value.pointer (some ⟨x61p, x61o, some x61l⟩))) (h16 : getCells H3 x61p x61l x61o 8 = some x62.toList) (h17 : callInf cfg 20 [Value.agg x62, Value.int .i64 ((x1.tmod x23b + x23b).tmod x23b)] (List.length H) H3 = some (Value.bool x64, H3)) (h18 : (!x64) = false) (h19 : ((x1.tmod x23b + x23b).tmod x23b != (x2.tmod x23b + x23b).tmod x23b) = true) (h20 : aindexAddr cfg.P 46 (Value.slice x18aa x18an x18ac) (Value.int .i64 ((x1.tmod x23b + x23b).tmod x23b)) = some (Value.pointer (some ⟨x73p, x73o, some x73l⟩))) (h21 : getCells H3 x73p x73l x73o 8 = some x74.toList) (h22 : callInf cfg 20 [Value.agg x74, Value.int .i64 ((x2.tmod x23b + x23b).tmod x23b)] (List.length H) H3 = some (Value.bool x76, H3)) (h23 : x76 = false) (h24 : lpInf (lpOf cfg a7 0 prot H) ([Value.int .i64 ((x1.tmod x23b + x23b).tmod x23b), Value.int .i64 ((x2.tmod x23b + x23b).tmod x23b), Value.slice x18aa x18an x18ac, Value.int .i64 x23b, Value.int .i64 0], H3) = some (Ex.exit 0, [z6], H4)) : callInf cfg 7 [.slice x0a x0n x0c, .int .i64 x1, .int .i64 x2] prot H = some (Value.bool true, H) :=
  fn_of2 a7 [.r (.slice x15a x15n x15c) H1, .r (.tuple #[.slice x18aa x18an x18ac, .int .i64 x18b]) H2, .r (.tuple #[.slice x23aa x23an x23ac, .int .i64 x23b, .int .i64 x23c]) H3, .v (.int .i64 x28), .v (.int .i64 x30), .e, .e, .b false, .b false, .e, .b false, .b false, .e, .b false, .b false, .v (.bool x40), .b false, .e, .b false, .b false, .e, .b false, .e, .e, .e, .e, .e, .e, .v (.pointer (some ⟨x61p, x61o, some x61l⟩)), .v (.agg x62), .v (.bool x64), .e, .b false, .b false, .b false, .e, .b false, .b true, .b true, .b true, .v (.pointer (some ⟨x73p, x73o, some x73l⟩)), .b true, .v (.agg x74), .b true, .b true, .v (.bool x76), .b false, .b true, .b false, .b false, .b false, .b false, .b false, .b false, .b false, .b false, .b false, .b false, .b false, .lo (.exit 0, [z6], H4)] (ai h1 (ai h2 (ai h3 (ai h4 (ai h5 (ai h6 (ai h7 (ai h7 (ai h7 (ai h7 (ai h7 (ai h8 (ai h9 (ai h8 (ai h8 (ai h10 (ai h11 (ai h12 (ai h13 (ai h12 (ai h12 (ai h14 (ai h12 (ai h15 (ai h16 (ai h17 (ai h18 (ai h18 (ai h18 (ai h18 (ai h19 (ai h19 (ai h19 (ai h20 (ai h19 (ai h21 (ai h19 (ai h19 (ai h22 (ai h18 (ai h19 (ai h18 (ai h23 (ai h23 (ai h23 (ai h23 (ai h23 (ai h23 (ai h18 (ai h23 (ai h18 (ai (Eq.refl false) (ai h24 (Eq.refl ((Value.bool true, H) : Value × AHeap))))))))))))))))))))))))))))))))))))))))))))))))))))))) (by kernel_rfl) rfl
theorem f7_F_8 {x0a : Option Addr} {x0n x0c : Nat} {x1 x2 : Int} {H : AHeap} {prot : Nat} {x15a : Option Addr} {x15n x15c : Nat} {H1 : AHeap} {x18aa : Option Addr} {x18an x18ac : Nat} {x18b : Int} {H2 : AHeap} {x23aa : Option Addr} {x23an x23ac : Nat} {x23b x23c : Int} {H3 : AHeap} {x28 x30 : Int} {x40 : Bool} {x61p x61o x61l : Nat} {x62 : Array Value} {x64 : Bool} {z6 : Value} {H4 : AHeap} (h1 : callInf cfg 17 [Value.slice x0a x0n x0c] (List.length H) H = some (Value.slice x15a x15n x15c, H1)) (h2 : callInf cfg 22 [Value.slice x15a x15n x15c] (List.length H) H1 = some (Value.tuple { toList := [Value.slice x18aa x18an x18ac, Value.int .i64 x18b] }, H2)) (h3 : callInf cfg 18 [Value.slice x15a x15n x15c] (List.length H) H2 = some (Value.tuple { toList := [Value.slice x23aa x23an x23ac, Value.int .i64 x23b, Value.int .i64 x23c] }, H3)) (h4 : callInf cfg 13 [Value.int .i64 x18b] (List.length H) H3 = some (Value.int .i64 x28, H3)) (h5 : callInf cfg 13 [Value.int .i64 x23c] (List.length H) H3 = some (Value.int .i64 x30, H3)) (h6 : Fit .i64 (x28 + x30)) (h7 : (x28 + x30 != 0) = false) (h8 : ((↑x18an : Int) != x23b) = false) (h9 : callInf cfg 16 [] (List.length H) H3 = some (Value.bool x40, H3)) (h10 : (!x40) = false) (h11 : (x23b == 0) = false) (h12 : x23b ≠ 0) (h13 : Fit .i64 (x1.tmod x23b + x23b)) (h14 : Fit .i64 (x2.tmod x23b + x23b)) (h15 : aindexAddr cfg.P 46 (Value.slice x18aa x18an x18ac) (Value.int .i64 ((x1.tmod x23b + x23b).tmod x23b)) = some (Value.pointer (some ⟨x61p, x61o, some x61l⟩))) (h16 : getCells H3 x61p x61l x61o 8 = some x62.toList) (h17 : callInf cfg 20 [Value.agg x62, Value.int .i64 ((x1.tmod x23b + x23b).tmod x23b)] (List.length H) H3 = some (Value.bool x64, H3)) (h18 : (!x64) = false) (h19 : ((x1.tmod x23b + x23b).tmod x23b != (x2.tmod x23b + x23b).tmod x23b) = false) (h20 : lpInf (lpOf cfg a7 0 prot H) ([Value.int .i64 ((x1.tmod x23b + x23b).tmod x23b), Value.int .i64 ((x2.tmod x23b + x23b).tmod x23b), Value.slice x18aa x18an x18ac, Value.int .i64 x23b, Value.int .i64 0], H3) = some (Ex.exit 0, [z6], H4)) : callInf cfg 7 [.slice x0a x0n x0c, .int .i64 x1, .int .i64 x2] prot H = some (Value.bool true, H) :=
  fn_of2 a7 [.r (.slice x15a x15n x15c) H1, .r (.tuple #[.slice x18aa x18an x18ac, .int .i64 x18b]) H2, .r (.tuple #[.slice x23aa x23an x23ac, .int .i64 x23b, .int .i64 x23c]) H3, .v (.int .i64 x28), .v (.int .i64 x30), .e, .e, .b false, .b false, .e, .b false, .b false, .e, .b false, .b false, .v (.bool x40), .b false, .e, .b false, .b false, .e, .b false, .e, .e, .e, .e, .e, .e, .v (.pointer (some ⟨x61p, x61o, some x61l⟩)), .v (.agg x62), .v (.bool x64), .e, .b false, .b false, .b false, .e, .b false, .b false, .b false, .b false, .b false, .b false, .b false, .b false, .b false, .b false, .b false, .b false, .b false, .b false, .b false, .b false, .b false, .b false, .b false, .b false, .lo (.exit 0, [z6], H4)] (ai h1 (ai h2 (ai h3 (ai h4 (ai h5 (ai h6 (ai h7 (ai h7 (ai h7 (ai h7 (ai h7 (ai h8 (ai h9 (ai h8 (ai h8 (ai h10 (ai h11 (ai h12 (ai h13 (ai h12 (ai h12 (ai h14 (ai h12 (ai h15 (ai h16 (ai h17 (ai h18 (ai h18 (ai h18 (ai h18 (ai h19 (ai h19 (ai h19 (ai h19 (ai h19 (ai h19 (ai h18 (ai h19 (ai h18 (ai (Eq.refl false) (ai (Eq.refl false) (ai (Eq.refl false) (ai (Eq.refl false) (ai (Eq.refl false) (ai (Eq.refl false) (ai h18 (ai (Eq.refl false) (ai h18 (ai (Eq.refl false) (ai h20 (Eq.refl ((Value.bool true, H) : Value × AHeap)))))))))))))))))))))))))))))))))))))))))))))))))))) (by kernel_rfl) rfl
theorem f7_L0_0 {x1 x2 : Int} {x8a : Option Addr} {x8n x8c : Nat} {x11 x13 : Int} {H0 : AHeap} {prot : Nat} {H : AHeap} {x94p x94o x94l : Nat} {x95 : Array Value} {x97 : Bool} {x101p x101o x101l : Nat} {x102 : Array Value} {x104 : Bool} {x109p x109o x109l : Nat} {x110 : Array Value} {x112 : Bool} (h1 : x13 < x11) (h2 : aindexAddr cfg.P 46 (Value.slice x8a x8n x8c) (Value.int .i64 x1) = some (Value.pointer (some ⟨x94p, x94o, some x94l⟩))) (h3 : getCells H x94p x94l x94o 8 = some x95.toList) (h4 : callInf cfg 20 [Value.agg x95, Value.int .i64 x2] (List.length H0) H = some (Value.bool x97, H)) (h5 : x97 = true) (h6 : aindexAddr cfg.P 46 (Value.slice x8a x8n x8c) (Value.int .i64 x2) = some (Value.pointer (some ⟨x101p, x101o, some x101l⟩))) (h7 : getCells H x101p x101l x101o 8 = some x102.toList) (h8 : callInf cfg 20 [Value.agg x102, Value.int .i64 x13] (List.length H0) H = some (Value.bool x104, H)) (h9 : x104 = true) (h10 : aindexAddr cfg.P 46 (Value.slice x8a x8n x8c) (Value.int .i64 x1) = some (Value.pointer (some ⟨x109p, x109o, some x109l⟩))) (h11 : getCells H x109p x109l x109o 8 = some x110.toList) (h12 : callInf cfg 20 [Value.agg x110, Value.int .i64 x13] (List.length H0) H = some (Value.bool x112, H)) (h13 : (!x112) = false) (h14 : Fit .i64 (x13 + 1)) : lpOf cfg a7 0 prot H0 ([.int .i64 x1, .int .i64 x2, .slice x8a x8n x8c, .int .i64 x11, .int .i64 x13], H) = some (Sum.inl ([Value.int .i64 x1, Value.int .i64 x2, Value.slice x8a x8n x8c, Value.int .i64 x11, Value.int .i64 (x13 + 1)], H)) :=
  lp_of2 [.e, .b true, .v (.pointer (some ⟨x94p, x94o, some x94l⟩)), .v (.agg x95), .v (.bool x97), .b true, .b true, .b true, .v (.pointer (some ⟨x101p, x101o, some x101l⟩)), .b true, .v (.agg x102), .b true, .b true, .v (.bool x104), .b true, .b true, .b true, .b true, .v (.pointer (some ⟨x109p, x109o, some x109l⟩)), .b true, .v (.agg x110), .b true, .b true, .v (.bool x112), .b true, .e, .b true, .b false, .e] (ai (decide_eq_true h1) (ai h2 (ai h3 (ai h4 (ai h5 (ai h5 (ai h5 (ai h6 (ai h5 (ai h7 (ai h5 (ai h5 (ai h8 (ai h5 (ai h9 (ai h9 (ai h9 (ai h10 (ai h9 (ai h11 (ai h9 (ai h9 (ai h12 (ai h9 (ai h9 (ai h13 (ai h14 (Eq.refl (Sum.inl ([Value.int .i64 x1, Value.int .i64 x2, Value.slice x8a x8n x8c, Value.int .i64 x11, Value.int .i64 (x13 + 1)], H) : LS ⊕ LO))))))))))))))))))))))))))))) (by kernel_rfl)
theorem f7_L0_2 {x1 x2 : Int} {x8a : Option Addr} {x8n x8c : Nat} {x11 x13 : Int} {H0 : AHeap} {prot : Nat} {H : AHeap} {x94p x94o x94l : Nat} {x95 : Array Value} {x97 : Bool} {x101p x101o x101l : Nat} {x102 : Array Value} {x104 : Bool} (h1 : x13 < x11) (h2 : aindexAddr cfg.P 46 (Value.slice x8a x8n x8c) (Value.int .i64 x1) = some (Value.pointer (some ⟨x94p, x94o, some x94l⟩))) (h3 : getCells H x94p x94l x94o 8 = some x95.toList) (h4 : callInf cfg 20 [Value.agg x95, Value.int .i64 x2] (List.length H0) H = some (Value.bool x97, H)) (h5 : x97 = true) (h6 : aindexAddr cfg.P 46 (Value.slice x8a x8n x8c) (Value.int .i64 x2) = some (Value.pointer (some ⟨x101p, x101o, some x101l⟩))) (h7 : getCells H x101p x101l x101o 8 = some x102.toList) (h8 : callInf cfg 20 [Value.agg x102, Value.int .i64 x13] (List.length H0) H = some (Value.bool x104, H)) (h9 : x104 = false) (h10 : Fit .i64 (x13 + 1)) : lpOf cfg a7 0 prot H0 ([.int .i64 x1, .int .i64 x2, .slice x8a x8n x8c, .int .i64 x11, .int .i64 x13], H) = some (Sum.inl ([Value.int .i64 x1, Value.int .i64 x2, Value.slice x8a x8n x8c, Value.int .i64 x11, Value.int .i64 (x13 + 1)], H)) :=
  lp_of2 [.e, .b true, .v (.pointer (some ⟨x94p, x94o, some x94l⟩)), .v (.agg x95), .v (.bool x97), .b true, .b true, .b true, .v (.pointer (some ⟨x101p, x101o, some x101l⟩)), .b true, .v (.agg x102), .b true, .b true, .v (.bool x104), .b true, .b false, .b false, .b false, .b false, .b false, .b false, .b false, .b false, .b false, .e] (ai (decide_eq_true h1) (ai h2 (ai h3 (ai h4 (ai h5 (ai h5 (ai h5 (ai h6 (ai h5 (ai h7 (ai h5 (ai h5 (ai h8 (ai h5 (ai h9 (ai h9 (ai h9 (ai h9 (ai h9 (ai h9 (ai h9 (ai h9 (ai (Eq.refl false) (ai h10 (Eq.refl (Sum.inl ([Value.int .i64 x1, Value.int .i64 x2, Value.slice x8a x8n x8c, Value.int .i64 x11, Value.int .i64 (x13 + 1)], H) : LS ⊕ LO)))))))))))))))))))))))))) (by kernel_rfl)
theorem f7_L0_3 {x1 x2 : Int} {x8a : Option Addr} {x8n x8c : Nat} {x11 x13 : Int} {H0 : AHeap} {prot : Nat} {H : AHeap} {x94p x94o x94l : Nat} {x95 : Array Value} {x97 : Bool} (h1 : x13 < x11) (h2 : aindexAddr cfg.P 46 (Value.slice x8a x8n x8c) (Value.int .i64 x1) = some (Value.pointer (some ⟨x94p, x94o, some x94l⟩))) (h3 : getCells H x94p x94l x94o 8 = some x95.toList) (h4 : callInf cfg 20 [Value.agg x95, Value.int .i64 x2] (List.length H0) H = some (Value.bool x97, H)) (h5 : x97 = false) (h6 : Fit .i64 (x13 + 1)) : lpOf cfg a7 0 prot H0 ([.int .i64 x1, .int .i64 x2, .slice x8a x8n x8c, .int .i64 x11, .int .i64 x13], H) = some (Sum.inl ([Value.int .i64 x1, Value.int .i64 x2, Value.slice x8a x8n x8c, Value.int .i64 x11, Value.int .i64 (x13 + 1)], H)) :=
  lp_of2 [.e, .b true, .v (.pointer (some ⟨x94p, x94o, some x94l⟩)), .v (.agg x95), .v (.bool x97), .b false, .b false, .b false, .b false, .b false, .b false, .b false, .b false, .b false, .b false, .b false, .b false, .b false, .b false, .b false, .b false, .e] (ai (decide_eq_true h1) (ai h2 (ai h3 (ai h4 (ai h5 (ai h5 (ai h5 (ai h5 (ai h5 (ai h5 (ai h5 (ai (Eq.refl false) (ai (Eq.refl false) (ai (Eq.refl false) (ai (Eq.refl false) (ai (Eq.refl false) (ai (Eq.refl false) (ai (Eq.refl false) (ai (Eq.refl false) (ai (Eq.refl false) (ai h6 (Eq.refl (Sum.inl ([Value.int .i64 x1, Value.int .i64 x2, Value.slice x8a x8n x8c, Value.int .i64 x11, Value.int .i64 (x13 + 1)], H) : LS ⊕ LO))))))))))))))))))))))) (by kernel_rfl)
theorem f7_L0_4 {x1 x2 : Int} {x8a : Option Addr} {x8n x8c : Nat} {x11 x13 : Int} {H0 : AHeap} {prot : Nat} {H : AHeap} (h1 : ¬(x13 < x11)) : lpOf cfg a7 0 prot H0 ([.int .i64 x1, .int .i64 x2, .slice x8a x8n x8c, .int .i64 x11, .int .i64 x13], H) = some (Sum.inr (Ex.exit 0, [Value.tuple { toList := [] }], H)) :=
  lp_of2 [.e, .b false] (ai (decide_eq_false h1) (Eq.refl (Sum.inr (Ex.exit 0, [Value.tuple { toList := [] }], H) : LS ⊕ LO))) (by kernel_rfl)
end Go.Proofs.Ytkemihfaohkoeaa.Am11
namespace Go.Proofs.Ytkemihfaohkoeaa.Am11
open Go Go.Proofs.Ytkemihfaohkoeaa.Am
theorem sets_rd {H : AHeap} {x : Value} {n : Nat} {A : Nat → Nat → Bool} (h : Rd H 39 8 x n (sets A n)) {k : Nat} (hk : k < n) :
    ∃ id L, aindexAddr cfg.P 46 x (.int .i64 (k : Nat)) = some (.pointer (some ⟨id, k * 8, some L⟩)) ∧ getCells H id L (k * 8) 8 = some (setA (A k)).toList := by
  obtain ⟨id, L, a, b⟩ := rd_atS T46 h hk
  have := b 0 8 (Nat.le_refl _)
  rw [Nat.add_zero, sets_get A n hk] at this
  exact ⟨id, L, a, this⟩
theorem loop7 {G : List (List Int)} {x : Value} {H0 H : AHeap} {prot : Nat} (hn : (comp G).2 ≤ 512) (hx : Rd H 39 8 x (comp G).2 (sets (abv G) (comp G).2)) {c d : Nat} (hc : c < (comp G).2) (hd : d < (comp G).2) : ∀ (k i : Nat), i + k = (comp G).2 →
    lpInf (lpOf cfg a7 0 prot H0) ([.int .i64 c, .int .i64 d, x, .int .i64 (comp G).2, .int .i64 i], H) = some (.exit 0, [.tuple #[]], H)
  | 0, i, hi => by
    obtain ⟨_, _, rfl⟩ := hx.len
    exact lp_last (f7_L0_4 (by omega))
  | k + 1, i, hi => by
    have hi2 : i < (comp G).2 := by omega
    have ih := loop7 hn hx hc hd (H0 := H0) (prot := prot) k (i + 1) (by omega)
    obtain ⟨i1, L1, p1, q1⟩ := sets_rd hx hc
    obtain ⟨i2, L2, p2, q2⟩ := sets_rd hx hd
    have h1 := c20 (S := abv G c) (show d < 512 by omega) H0.length H
    have h2 := c20 (S := abv G d) (show i < 512 by omega) H0.length H
    have h3 := c20 (S := abv G c) (show i < 512 by omega) H0.length H
    have fi : Fit .i64 ((i : Int) + 1) := fit64 (by omega) (by omega)
    obtain ⟨_, _, rfl⟩ := hx.len
    cases e1 : abv G c d with
    | false =>
      rw [e1] at h1
      exact lp_next (f7_L0_3 (x95 := setA (abv G c)) (by omega) p1 q1 h1 rfl fi) ih
    | true =>
      rw [e1] at h1
      cases e2 : abv G d i with
      | false =>
        rw [e2] at h2
        exact lp_next (f7_L0_2 (x95 := setA (abv G c)) (x102 := setA (abv G d)) (by omega) p1 q1 h1 rfl p2 q2 h2 rfl fi) ih
      | true =>
        rw [e2] at h2
        have e3 : abv G c i = true := abv_iff.2 ((abv_iff.1 e1).trans (abv_iff.1 e2))
        rw [e3] at h3
        exact lp_next (f7_L0_0 (x95 := setA (abv G c)) (x102 := setA (abv G d)) (x110 := setA (abv G c)) (by omega) p1 q1 h1 rfl p2 q2 h2 rfl p1 q1 h3 rfl fi) ih
theorem law7 {G : List (List Int)} {x0 : Value} (x1 x2 : Int) (hs : Short8 G) (prot : Nat) (H : AHeap) (hg : Gr H x0 G) : callInf cfg 7 [x0, .int .i64 x1, .int .i64 x2] prot H = some (.bool true, H) := by
  obtain ⟨x', H1, w1, w2, w3⟩ := c17 hs H.length hg
  obtain ⟨W, hW⟩ : ∃ W, wit G = W := ⟨_, rfl⟩
  have hchk := wit_chk G
  have hsW := wit_short hs
  have hW5 : W.length ≤ 512 := by rw [← hW, wit_len]; omega
  rw [hW] at w2 hchk hsW
  have hnW := comp_n W
  obtain ⟨s, H2, a1, a2, a3⟩ : ∃ s H2, callInf cfg 22 [x'] H.length H1 = some (.tuple #[s, .int .i64 0], H2) ∧ OwnS H2 39 8 s (comp W).2 (sets (abv W) (comp W).2) H1.length ∧ Stay none H1 H2 := by
    rcases c22 hsW H.length w2 with ⟨h1, _⟩ | ⟨_, h2⟩
    · exact absurd hchk h1
    · exact h2
  obtain ⟨y, H3, c1, c2, c3, c4⟩ : ∃ y H3, callInf cfg 18 [x'] H.length H2 = some (.tuple #[y, .int .i64 (comp W).2, .int .i64 0], H3) ∧ OwnE H3 3 y W.length (il (nl (comp W).1)) H2.length ∧ (comp W).1.length = W.length ∧ Stay none H2 H3 := by
    rcases c18 hsW H.length (w2.stay a3) with ⟨h1, _⟩ | ⟨_, h2⟩
    · exact absurd hchk h1
    · exact h2
  have hk := cKnows H.length H3
  have hsr := (a2.stay c4).rd
  obtain ⟨ax, cx, rfl⟩ := w2.len
  obtain ⟨ay, cy, rfl⟩ := c2.rd.len
  obtain ⟨aG, cG, rfl⟩ := hg.len
  have hsl := hsr.len
  have f1 : Fit .i64 ((0 : Int) + 0) := fit64 (by omega) (by omega)
  by_cases h0 : (comp W).2 = 0
  · obtain ⟨sa, sc0, rfl⟩ := hsl
    exact f7_F_2 w1 a1 c1 f13_F_0 f13_F_0 f1 rfl (by simp) hk rfl (by rw [beq_iff_eq]; omega)
  · have tm : ∀ z : Int, ∃ t : Nat, (z.tmod ((comp W).2 : Int) + ((comp W).2 : Int)).tmod ((comp W).2 : Int) = t ∧ t < (comp W).2 ∧ Fit .i64 (z.tmod ((comp W).2 : Int) + ((comp W).2 : Int)) := fun z => by
      have h1 : -((comp W).2 : Int) < z.tmod ((comp W).2 : Int) := Int.lt_tmod_of_pos z (by omega)
      have h2 := Int.tmod_lt_of_pos z (show (0 : Int) < (comp W).2 by omega)
      have h3 : 0 ≤ (z.tmod ((comp W).2 : Int) + ((comp W).2 : Int)).tmod ((comp W).2 : Int) := Int.tmod_nonneg _ (by omega)
      have h4 := Int.tmod_lt_of_pos (z.tmod ((comp W).2 : Int) + ((comp W).2 : Int)) (show (0 : Int) < (comp W).2 by omega)
      exact ⟨((z.tmod ((comp W).2 : Int) + ((comp W).2 : Int)).tmod ((comp W).2 : Int)).toNat, by omega, by omega, fit64 (by omega) (by omega)⟩
    obtain ⟨c, hc, hcl, fc⟩ := tm x1
    obtain ⟨d, hd, hdl, fd⟩ := tm x2
    have hlp := loop7 (by omega) hsr hcl hdl (H0 := H) (prot := prot) (comp W).2 0 (by omega)
    obtain ⟨i1, L1, p1, q1⟩ := sets_rd hsr hcl
    obtain ⟨i2, L2, p2, q2⟩ := sets_rd hsr hdl
    have e1 : abv W c c = true := abv_iff.2 (Abv.self hcl)
    have h1 := c20 (S := abv W c) (show c < 512 by omega) H.length H3
    rw [e1] at h1
    have h2 := c20 (S := abv W c) (show d < 512 by omega) H.length H3
    have h3 := c20 (S := abv W d) (show c < 512 by omega) H.length H3
    have hz : (((comp W).2 : Int) == 0) = false := by rw [beq_eq_false_iff_ne]; omega
    have hne : ((comp W).2 : Int) ≠ 0 := by omega
    obtain ⟨sa, sc0, rfl⟩ := hsl
    rw [← hc] at p1 h1 h3 hlp
    rw [← hd] at p2 h2 hlp
    by_cases hcd : c = d
    · exact f7_F_8 (x62 := setA (abv W c)) w1 a1 c1 f13_F_0 f13_F_0 f1 rfl (by simp) hk rfl hz hne fc fd p1 q1 h1 rfl (by rw [hc, hd, hcd]; simp) hlp
    · have hne2 : ((x1.tmod ((comp W).2 : Int) + ((comp W).2 : Int)).tmod ((comp W).2 : Int) != (x2.tmod ((comp W).2 : Int) + ((comp W).2 : Int)).tmod ((comp W).2 : Int)) = true := by
        rw [hc, hd, bne_iff_ne]; omega
      cases e2 : abv W c d with
      | false =>
        rw [e2] at h2
        exact f7_F_6 (x62 := setA (abv W c)) (x74 := setA (abv W c)) w1 a1 c1 f13_F_0 f13_F_0 f1 rfl (by simp) hk rfl hz hne fc fd p1 q1 h1 rfl hne2 p1 q1 h2 rfl hlp
      | true =>
        rw [e2] at h2
        have e3 : abv W d c = false := by
          rw [Bool.eq_false_iff]
          intro h
          exact hcd ((abv_iff.1 e2).anti (abv_iff.1 h))
        rw [e3] at h3
        exact f7_F_4 (x62 := setA (abv W c)) (x74 := setA (abv W c)) (x82 := setA (abv W d)) w1 a1 c1 f13_F_0 f13_F_0 f1 rfl (by simp) hk rfl hz hne fc fd p1 q1 h1 rfl hne2 p1 q1 h2 rfl p2 q2 h3 rfl hlp
end Go.Proofs.Ytkemihfaohkoeaa.Am11
