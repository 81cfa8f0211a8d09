/- A part of the proof of a given statement: AmGrid, AmRd2, AmStr, AmArr, AmSet, AmGrow, AmStk, AmPw2, P11_25, P11_26, S11_A, S11_R, P11_39, P11_47, S11_B, P11_37, P11_36, P11_18, S11_C, S11_D, AmOwnE, S11_E, P11_46, P11_50, P11_38, P11_20, S11_F, P11_19, S11_G, P11_43, S11_K, P11_44, S11_L, S11_M, AmApart, P11_29, S11_H, AmKey, P11_30, P11_31, S11_N, P11_17, S11_W, P11_4, P11_13, Law11_4, S11_P, AmSets. No condition. -/
import Derived.Test.YtkemihfaohkoeaaPart11
import Derived.Deep.Matrix
namespace Go.Proofs.Ytkemihfaohkoeaa.Am
open Go Go.RowKit Go.ChangeShapes Go.WideShapes

/-- A row of memory that is only read: its cells may hold slices. -/
theorem Sim.roV {P : Program} {w0 w : World} {μ : PMap} {H : AHeap} (h : Sim P w0 μ H w) (hnw : ∀ (id : Nat) (o : AObj), H[id]? = some o → writable o = false) {vs : List Value} {e b off : Nat} (hb : b < w.heap.size) (hc : ∀ i v, vs[i]? = some v → ∃ x, w.cell? ⟨b, off + i, none⟩ = some x ∧ VRel μ v x) :
    Sim P w0 (ext1 μ H.length vs.length ⟨b, off, 0, true⟩) (H ++ [.cells vs e vs.length .ro]) w ∧ Sub μ (ext1 μ H.length vs.length ⟨b, off, 0, true⟩) := by
  have hf : ∀ L, μ H.length L = none := fun L => by
    cases hh : μ H.length L with
    | none => rfl
    | some m => have := (h.dom _ _ _ hh).1; omega
  have hsub : Sub μ (ext1 μ H.length vs.length ⟨b, off, 0, true⟩) := ext1_sub (hf _)
  have old : ∀ {id L m}, ext1 μ H.length vs.length ⟨b, off, 0, true⟩ id L = some m → (id = H.length ∧ L = vs.length ∧ m = ⟨b, off, 0, true⟩) ∨ (id ≠ H.length ∧ μ id L = some m) := by
    intro id L m hm
    unfold ext1 at hm
    split at hm
    · rename_i hc; cases hm; exact .inl ⟨hc.1, hc.2, rfl⟩
    · refine .inr ⟨fun e => ?_, hm⟩
      rw [e, hf] at hm
      cases hm
  have hget : ∀ {id o}, (H ++ [AObj.cells vs e vs.length .ro])[id]? = some o → (id < H.length ∧ H[id]? = some o) ∨ (id = H.length ∧ o = .cells vs e vs.length .ro) := by
    intro id o ho
    by_cases hid : id < H.length
    · rw [List.getElem?_append_left hid] at ho
      exact .inl ⟨hid, ho⟩
    · rw [List.getElem?_append_right (by omega)] at ho
      cases hh : id - H.length with
      | zero => rw [hh] at ho; simp only [List.getElem?_cons_zero, Option.some.injEq] at ho; exact .inr ⟨by omega, ho.symm⟩
      | succ k => rw [hh] at ho; simp at ho
  refine ⟨⟨h.below, fun id L m hm => ?_, fun id L m hm => ?_, fun id L m cs e' wr md hm hH => ?_, fun id o ho => ?_, fun id id' o o' L L' m m' hne ho ho' hw hl hl' hm hm' => ?_⟩, hsub⟩
  · rcases old hm with ⟨h1, h2, h3⟩ | ⟨h1, h2⟩
    · subst h3; exact ⟨by simp; omega, hb⟩
    · have := h.dom id L m h2; exact ⟨by simp; omega, this.2⟩
  · rcases old hm with ⟨h1, h2, h3⟩ | ⟨h1, h2⟩
    · rw [h1, append_get.1]; simp
    · have := (h.dom id L m h2).1
      rw [List.getElem?_append_left this]
      exact h.nohole id L m h2
  · rcases old hm with ⟨h1, h2, h3⟩ | ⟨h1, h2⟩
    · rw [h1, append_get.1] at hH
      cases hH
      omega
    · have := (h.dom id L m h2).1
      rw [List.getElem?_append_left this] at hH
      exact h.ver id L m cs e' wr md h2 hH
  · rcases hget ho with ⟨hid, ho⟩ | ⟨hid, rfl⟩
    · refine (h.ok id o ho).keep hsub (fun L => ?_) fun _ _ _ _ => rfl
      exact ext1_ne (fun hh => by omega)
    · subst hid
      refine ⟨Nat.le_refl _, ⟨_, ext1_at _ _ _ _⟩, fun L m h1 h2 h3 => ?_⟩
      rcases old h3 with ⟨_, h5, rfl⟩ | ⟨h4, _⟩
      · refine ⟨fun i x _ hx => ?_, fun hh => by cases hh⟩
        obtain ⟨y, hy1, hy2⟩ := hc i x hx
        exact ⟨y, hy1, hy2.mono hsub⟩
      · exact absurd rfl h4
  · rcases hget ho with ⟨hid, ho⟩ | ⟨hid, rfl⟩
    · rcases hget ho' with ⟨hid', ho'⟩ | ⟨hid', rfl⟩
      · rcases old hm with ⟨h1, _, _⟩ | ⟨_, hm⟩
        · omega
        · rcases old hm' with ⟨h1, _, _⟩ | ⟨_, hm'⟩
          · omega
          · exact h.sep id id' o o' L L' m m' hne ho ho' hw hl hl' hm hm'
      · rw [hnw id o ho] at hw; cases hw
    · cases hw


/-- A slice of any cells in an argument. -/
theorem ArgSt.sliceV {P : Program} {W : World} {μ : PMap} {H : AHeap} (h : ArgSt P W μ H) {e : Nat} {x : Addr} {len cap : Nat} (vs : List Value) (hsp : x.spot = none ∧ x.block < W.heap.size) (hlen : vs.length = len)
    (hc : ∀ i v, vs[i]? = some v → ∃ y, W.cell? (x.add i) = some y ∧ VRel μ v y) (hcap : len ≤ cap) :
    ∃ av H' μ', ArgSt P W μ' H' ∧ Sub μ μ' ∧ VRel μ' av (.slice (some x) len cap) ∧ Rd H' e 1 av len vs ∧ Stay none H H' := by
  obtain ⟨b, off, spot⟩ := x
  obtain ⟨h1, h2⟩ := hsp
  simp only at h1 h2
  subst h1
  obtain ⟨s1, s2⟩ := h.sim.roV h.ro (vs := vs) (e := e) (b := b) (off := off) h2 (fun i v hv => by
    have := hc i v hv
    unfold Addr.add at this
    split at this
    · rename_i hi; subst hi; exact this
    · exact this)
  refine ⟨.slice (some ⟨H.length, 0, some vs.length⟩) len len, _, _, ⟨s1, fun id o ho => ?_⟩, s2, ?_, ⟨by omega, .inr ⟨H.length, vs.length, vs.length, .ro, len, vs, rfl, Nat.le_refl _, Nat.le_refl _, by omega, append_get.1, by rw [List.take_of_length_le (by omega)]⟩⟩, Stay.app none H _⟩
  · by_cases hid : id < H.length
    · rw [List.getElem?_append_left hid] at ho
      exact h.ro id o ho
    · rw [List.getElem?_append_right (by omega)] at ho
      cases hh : id - H.length with
      | zero => rw [hh] at ho; simp only [List.getElem?_cons_zero, Option.some.injEq] at ho; subst ho; rfl
      | succ k => rw [hh] at ho; simp at ho
  · exact VRel.slice (μ := ext1 μ H.length vs.length ⟨b, off, 0, true⟩) H.length 0 vs.length len len cap ⟨b, off, 0, true⟩ (ext1_at _ _ _ _) hcap (fun _ hh => by cases hh)

/-- Where a cell is, there is a block. -/
theorem cell_here {w : World} {a : Addr} {v : Value} (h : w.cell? a = some v) : a.spot = none ∧ a.block < w.heap.size := by
  unfold World.cell? at h
  split at h
  · rename_i c t f hh
    split at h
    · cases h
    · rename_i hs
      refine ⟨by simpa using hs, (Array.getElem?_eq_some_iff.1 hh).1⟩
  · cases h

/-- Rows of numbers, one behind the other. -/
theorem ArgSt.rows {P : Program} {W : World} {q : Nat} (A : Nat → Option Addr) (L C : Nat → Nat) (Z : Nat → List Int) : ∀ (n : Nat) {μ : PMap} {H : AHeap}, ArgSt P W μ H →
    (∀ r, r < n → L r ≤ C r ∧ (Z r).length = C r ∧ (A r = none → C r = 0) ∧ ∀ a', A r = some a' → ∀ c, c < C r → W.cell? (a'.add c) = some (.int .i64 ((Z r).getD c 0))) →
    ∃ (cs : List Value) (H' : AHeap) (μ' : PMap), cs.length = n ∧ ArgSt P W μ' H' ∧ Sub μ μ' ∧ Stay none H H' ∧ ∀ r, r < n → ∃ v, cs[r]? = some v ∧ VRel μ' v (.slice (A r) (L r) (C r)) ∧ Rd H' q 1 v (L r) (((Z r).take (L r)).map (Value.int .i64))
  | 0, μ, H, h, _ => ⟨[], H, μ, rfl, h, Sub.refl μ, Stay.refl _ _, fun r hr => by omega⟩
  | n + 1, μ, H, h, hr => by
    obtain ⟨cs, H1, μ1, k1, k2, k3, k4, k5⟩ := ArgSt.rows (q := q) A L C Z n h (fun r hh => hr r (by omega))
    obtain ⟨f1, f2, f3, f4⟩ := hr n (by omega)
    have hone : ∃ v H2 μ2, ArgSt P W μ2 H2 ∧ Sub μ1 μ2 ∧ Stay none H1 H2 ∧ VRel μ2 v (.slice (A n) (L n) (C n)) ∧ Rd H2 q 1 v (L n) (((Z n).take (L n)).map (Value.int .i64)) := by
      by_cases hC : C n = 0
      · have hL : L n = 0 := by omega
        rw [hC, hL]
        cases hA : A n with
        | none => exact ⟨.slice none 0 0, H1, μ1, k2, Sub.refl _, Stay.refl _ _, .base _ rfl, ⟨rfl, .inl ⟨rfl, .inl rfl⟩⟩⟩
        | some a => exact ⟨emptySlice, H1, μ1, k2, Sub.refl _, Stay.refl _ _, .empty a, ⟨rfl, .inl ⟨rfl, .inr rfl⟩⟩⟩
      · obtain ⟨a, ha⟩ : ∃ a, A n = some a := by
          cases hA : A n with
          | none => exact absurd (f3 hA) hC
          | some a => exact ⟨a, rfl⟩
        have f5 := f4 a ha
        have h0 := f5 0 (by omega)
        have e0 : a.add 0 = a := by unfold Addr.add; simp
        rw [e0] at h0
        rw [ha]
        obtain ⟨av, H2, μ2, q1, q2, q3, q4, q5⟩ := k2.sliceV (e := q) (x := a) (len := L n) (cap := C n) (((Z n).take (L n)).map (Value.int .i64)) (cell_here h0) (by simp; omega) (fun i w hw => by
          simp only [List.getElem?_map, Option.map_eq_some_iff] at hw
          obtain ⟨z, hz, rfl⟩ := hw
          have hil : i < L n := by
            have := (List.getElem?_eq_some_iff.1 hz).1
            simp at this; omega
          rw [List.getElem?_take_of_lt hil] at hz
          refine ⟨_, f5 i (by omega), ?_⟩
          rw [List.getD_eq_getElem?_getD, hz]
          exact .base _ rfl) f1
        exact ⟨av, H2, μ2, q1, q2, q5, q3, q4⟩
    obtain ⟨v, H2, μ2, p1, p2, p3, p4, p5⟩ := hone
    refine ⟨cs ++ [v], H2, μ2, by simp [k1], p1, k3.trans p2, k4.trans p3, fun r hh => ?_⟩
    rcases Nat.lt_succ_iff_lt_or_eq.1 hh with hlt | rfl
    · obtain ⟨u, u1, u2, u3⟩ := k5 r hlt
      exact ⟨u, by rw [List.getElem?_append_left (by omega)]; exact u1, u2.mono p2, u3.stay p3⟩
    · exact ⟨v, by rw [List.getElem?_append_right (by omega), k1]; simp, p4, p5⟩

theorem cell_form {P : Program} {w : World} {r : Reach} {base : Nat} {t e : TypeId} {v : Value} (ht : P.underlying t = some (.slice e)) (h : Cell.okWide P w r base t v) : ∃ a n c, v = .slice a n c := by
  unfold Cell.okWide at h
  rw [ht] at h
  unfold Cell.ok at h
  rw [ht] at h
  cases v with
  | slice a n c => exact ⟨a, n, c, rfl⟩
  | _ => exact absurd h (by simp)

theorem weightsAll_mem {A : Type} {P : Program} {e : TypeId} : ∀ (l : List (DataW A)) (d : DataW A), d ∈ l → ∀ n ∈ d.weights P e, n ∈ DataW.weightsAll P e l
  | [], d, hd, _, _ => by cases hd
  | x :: r, d, hd, n, hn => by
    unfold DataW.weightsAll
    rw [List.mem_append]
    rcases List.mem_cons.1 hd with rfl | hd
    · exact .inl hn
    · exact .inr (weightsAll_mem r d hd n hn)

/-- Lists of numbers in an argument, with what bounds their sizes. -/
theorem ArgSt.grid {P : Program} {W : World} {μ : PMap} {H : AHeap} (h : ArgSt P W μ H) {A : Type} {enc : TypeId × Value → A} {t e q : TypeId} {v : Value} {d : DataW A} {ps : List MemPlace} {base : Nat}
    (ht : P.underlying t = some (.slice e)) (he : P.underlying e = some (.slice q)) (hq : P.underlying q = some (.int .i64)) (ce : P.cellsOf e = 1) (cq : P.cellsOf q = 1)
    (hval : Value.okWide P W .any base t v) (hd : DataW.Trod enc P W 0 (fun _ => true) true t v d ps) :
    ∃ (G : List (List Int)) (av : Value) (H' : AHeap) (μ' : PMap), ArgSt P W μ' H' ∧ Sub μ μ' ∧ VRel μ' av v ∧ Stay none H H' ∧ (∃ cs, Rd H' e 1 av G.length cs ∧ ∀ (i : Nat) (l : List Int), G[i]? = some l → ∃ r, cs[i]? = some r ∧ Rd H' q 1 r l.length (l.map (Value.int .i64))) ∧
      (∀ M, (∀ n ∈ d.weights P t, n ≤ M) → G.length * P.bytesOf e ≤ M ∧ ∀ l ∈ G, l.length * P.bytesOf q ≤ M) := by
  obtain ⟨fuel, hd⟩ := hd
  have hcell : Cell.okWide P W .any base t v := by
    unfold Value.okWide at hval
    rw [ht] at hval
    exact hval
  rcases Go.Deep.open_int_rows ht he hq ce cq hd with ⟨hh, _⟩ | ⟨a, len, cap, Ar, L, C, Z, hh, _, hlc, _, hx, hrow⟩
  · have hv : v = .slice none 0 0 := by
      obtain ⟨x, n, c, rfl⟩ := cell_form ht hcell
      simpa [Value.cells] using hh
    subst hv
    exact ⟨[], .slice none 0 0, H, μ, h, Sub.refl μ, .base _ rfl, Stay.refl _ _, ⟨[], ⟨rfl, .inl ⟨rfl, .inl rfl⟩⟩, fun i l hl => by simp at hl⟩, fun M _ => ⟨by simp, by simp⟩⟩
  · have hv : v = .slice (some a) len cap := by
      obtain ⟨x, n, c, rfl⟩ := cell_form ht hcell
      simpa [Value.cells] using hh
    subst hv
    obtain ⟨g1, g2⟩ := cell_slice ht hcell
    obtain ⟨cs, H1, μ1, k1, k2, k3, k4, k5⟩ := ArgSt.rows (q := q) Ar L C Z len h (fun r hr => by
      obtain ⟨_, r2, _, r4, _, r6, r7⟩ := hrow r (by omega)
      exact ⟨r2, r4, r6, fun a' ha' => (r7 a' ha').2⟩)
    obtain ⟨av, H2, μ2, q1, q2, q3, q4, q5⟩ := k2.sliceV (e := e) (x := a) (len := len) (cap := cap) cs ⟨g1, g2⟩ k1 (fun i w hw => by
      have hi : i < len := by
        have := (List.getElem?_eq_some_iff.1 hw).1
        omega
      obtain ⟨u, u1, u2, _⟩ := k5 i hi
      rw [u1] at hw
      cases hw
      exact ⟨_, (hrow i (by omega)).1, u2⟩) hlc
    have hG : ((List.range len).map fun r => (Z r).take (L r)).length = len := by simp
    refine ⟨(List.range len).map fun r => (Z r).take (L r), av, H2, μ2, q1, k3.trans q2, q3, k4.trans q5, ⟨cs, by rw [hG]; exact q4, fun i l hl => ?_⟩, fun M hM => ?_⟩
    · rw [List.getElem?_map, Option.map_eq_some_iff] at hl
      obtain ⟨r, hr, rfl⟩ := hl
      have hi : i < len := by
        have := (List.getElem?_eq_some_iff.1 hr).1
        simpa using this
      rw [List.getElem?_range hi] at hr
      cases hr
      obtain ⟨u, u1, _, u3⟩ := k5 i hi
      obtain ⟨_, r2, _, r4, _⟩ := hrow i (by omega)
      refine ⟨u, u1, ?_⟩
      rw [show ((Z i).take (L i)).length = L i by simp; omega]
      exact u3.stay q5
    · simp only [Prod.mk.injEq] at hx
      rw [hx.1] at hM
      have e1 : ∀ n, n ∈ (DataW.slice ((List.range len).map fun r => Go.Deep.intRow (H := A) .i64 (Ar r) (L r) (Z r)) ((List.range (cap - len)).map fun j => Go.Deep.intRow .i64 (Ar (len + j)) (L (len + j)) (Z (len + j)))).weights P t ↔
          n = (len + (cap - len)) * P.bytesOf e ∨ n ∈ DataW.weightsAll P e ((List.range len).map fun r => Go.Deep.intRow (H := A) .i64 (Ar r) (L r) (Z r)) ∨ n ∈ DataW.weightsAll P e ((List.range (cap - len)).map fun j => Go.Deep.intRow (H := A) .i64 (Ar (len + j)) (L (len + j)) (Z (len + j))) := by
        intro n
        simp only [DataW.weights, ht, List.length_map, List.length_range, List.mem_cons, List.mem_append]
      refine ⟨?_, fun l hl => ?_⟩
      · have hm := hM _ ((e1 _).2 (.inl rfl))
        rw [hG]
        have := Nat.mul_le_mul_right (P.bytesOf e) (show len ≤ len + (cap - len) by omega)
        omega
      · obtain ⟨r, hr, rfl⟩ := List.mem_map.1 hl
        have hi : r < len := List.mem_range.1 hr
        obtain ⟨_, r2, _, r4, _, r6, _⟩ := hrow r (by omega)
        cases hA : Ar r with
        | none =>
          have : L r = 0 := by have := r6 hA; omega
          simp [this]
        | some a' =>
          have hm := hM (((Z r).take (L r)).length * P.bytesOf q + ((Z r).drop (L r)).length * P.bytesOf q) ((e1 _).2 (.inr (.inl (weightsAll_mem _ (Go.Deep.intRow .i64 (Ar r) (L r) (Z r)) (List.mem_map.2 ⟨r, hr, rfl⟩) _ (by
            rw [hA]
            simp [Go.Deep.intRow, DataW.weights, he, lits, Nat.add_mul])))))
          omega
end Go.Proofs.Ytkemihfaohkoeaa.Am
namespace Go.Proofs.Ytkemihfaohkoeaa.Am
open Go

/-- One cell of a row of one-cell elements is put. -/
theorem put_map {α : Type} (f : α → Value) (l : List α) {i : Nat} (hi : i < l.length) (c : α) : putList (l.map f) (i * 1 + 0) [f c] = (l.set i c).map f := by
  unfold putList
  rw [Nat.mul_one, Nat.add_zero]
  apply List.ext_getElem
  · simp; omega
  · intro j h1 h2
    simp only [List.getElem_map, List.getElem_set]
    rw [List.getElem_append]
    split
    · rename_i hj
      rw [List.getElem_append]
      split
      · rename_i hj2
        simp only [List.length_take, List.length_map] at hj2
        rw [if_neg (by omega)]
        simp
      · rename_i hj2
        simp only [List.length_append, List.length_take, List.length_map, List.length_cons, List.length_nil] at hj hj2
        rw [if_pos (by omega)]
        simp
    · rename_i hj
      simp only [List.length_append, List.length_take, List.length_map, List.length_cons, List.length_nil] at hj
      rw [if_neg (by omega)]
      simp only [List.getElem_drop, List.getElem_map, List.length_append, List.length_take, List.length_map, List.length_cons, List.length_nil]
      congr 2
      omega
theorem rep_map {α : Type} (f : α → Value) (a : α) : ∀ n, repCells [f a] n = (List.replicate n a).map f
  | 0 => rfl
  | n + 1 => by
    unfold repCells
    rw [rep_map f a n, List.replicate_succ]
    rfl

end Go.Proofs.Ytkemihfaohkoeaa.Am
namespace Go.Proofs.Ytkemihfaohkoeaa.Am
open Go

/-- The text of some byte codes. -/
def bstr (l : List Nat) : ByteArray := ⟨(l.map fun n => UInt8.ofNat n).toArray⟩
/-- A word, given by its letters. -/
def lw (w : List Nat) : ByteArray := bstr (w.map (97 + ·))
/-- A list is copied behind nothing. -/
theorem own_grow {P : Program} {t e s by_ : Nat} (T : ElemT P t e s by_) {H : AHeap} {x y : Value} (hx : x = .slice none 0 0 ∨ x = emptySlice) {n : Nat} {cs : List Value} (hy : Rd H e s y n cs) (hc : cs.all isCell = true) {prot : Nat} {room : Bool} (hroom : n * by_ ≤ 140737488355328) :
    ∃ a c o H', aappend P prot room t t x y H = some (.slice a n c, H') ∧ Own H' e s (.slice a n c) o n cs ∧ Stay none H H' ∧ (∀ id, o = some id → H.length ≤ id) ∧ (0 < n → o = some H.length) := by
  obtain ⟨z, hz, hzl⟩ := T.ze
  have hsrc := rd_src (s := s) T.un hy
  have hlen := hy.1
  have hs := T.s0
  have hb := T.b0
  have key : ∀ r, (match x with
      | .slice none 0 0 => if n = 0 then some (.slice none 0 0, H) else if n * by_ ≤ 140737488355328 then some (sliceTo H (n * s) n, newObj H cs e) else none
      | .slice (some ⟨0, 0, none⟩) 0 0 => if n = 0 then some (emptySlice, H) else if n * by_ ≤ 140737488355328 then some (sliceTo H (n * s) n, newObj H cs e) else none
      | _ => none) = some r → aappend P prot room t t x y H = some r := fun r hr => by
    unfold aappend
    rw [T.sl]
    simp only [Option.bind_some]
    rw [T.sz]
    simp only [Option.bind_some]
    rw [T.bt]
    simp only [Option.bind_some]
    rw [hz]
    simp only [Option.bind_some]
    rw [if_pos ⟨trivial, hs, hb, hzl⟩, hsrc]
    simp only [Option.bind_some]
    rw [if_pos ⟨hlen, hc⟩]
    rcases hx with rfl | rfl
    · exact hr
    · exact hr
  by_cases hn : n = 0
  · subst hn
    have hcs : cs = [] := List.length_eq_zero_iff.1 (by omega)
    subst hcs
    rcases hx with rfl | rfl
    · exact ⟨_, _, none, H, key _ rfl, own_nil, Stay.refl _ _, fun id h => (by cases h), fun h => (by omega)⟩
    · exact ⟨_, _, none, H, key _ rfl, ⟨by simp, rfl, .inr rfl⟩, Stay.refl _ _, fun id h => (by cases h), fun h => (by omega)⟩
  · refine ⟨_, _, some H.length, _, key (sliceTo H (n * s) n, newObj H cs e) ?_, own_new hlen (by omega) (by rw [hlen]) rfl, Stay.app none H _, fun id h => by cases h; exact Nat.le_refl _, fun _ => rfl⟩
    rcases hx with rfl | rfl
    · simp only
      rw [if_neg hn, if_pos hroom]
    · simp only [emptySlice]
      rw [if_neg hn, if_pos hroom]
end Go.Proofs.Ytkemihfaohkoeaa.Am
namespace Go.Proofs.Ytkemihfaohkoeaa.Am
open Go
theorem putList_one (L : List Value) {i : Nat} (hi : i < L.length) (v : Value) : putList L (0 + i * 1) [v] = L.set i v := by
  unfold putList
  rw [Nat.mul_one, Nat.zero_add, List.set_eq_take_append_cons_drop, if_pos hi]
  simp
/-- An array in a variable: a part is read, is written; all of it. -/
theorem arr_get {H : AHeap} {p e n : Nat} {L : List Value} {md : OMode} (h : H[p]? = some (.cells L e n md)) (hl : L.length = n) {i : Nat} {v : Value} (hv : L[i]? = some v) : getCells H p n (0 + i * 1) 1 = some [v] := by
  have hi := (List.getElem?_eq_some_iff.1 hv).1
  unfold getCells
  rw [h]
  simp only
  rw [if_pos ⟨Nat.le_refl _, by omega, by omega⟩, Nat.mul_one, Nat.zero_add, List.drop_eq_getElem_cons hi]
  rw [List.getElem?_eq_getElem hi] at hv
  simp [Option.some.inj hv]
theorem arr_set {H : AHeap} {p e n prot : Nat} {L : List Value} (h : H[p]? = some (.cells L e n .var)) (hl : L.length = n) (hp : prot ≤ p) {i : Nat} (hi : i < n) {v : Value} (hv : isCell v = true) :
    setCells H prot p n (0 + i * 1) [v] = some (H.set p (.cells (L.set i v) e n .var)) := by
  unfold setCells
  rw [h]
  simp only
  rw [if_pos ⟨rfl, hp, by omega, by simp; omega, by simp [hv]⟩, putList_one L (by omega)]
theorem arr_all {H : AHeap} {p e n : Nat} {L : List Value} {md : OMode} (h : H[p]? = some (.cells L e n md)) (hl : L.length = n) : getCells H p n 0 n = some L := by
  unfold getCells
  rw [h]
  simp only
  rw [if_pos ⟨Nat.le_refl _, by omega, by omega⟩, List.drop_zero, List.take_of_length_le (by omega)]
theorem arr_put {H : AHeap} {p e n prot : Nat} {L L' : List Value} (h : H[p]? = some (.cells L e n .var)) (hl : L.length = n) (hp : prot ≤ p) (hl' : L'.length = n) (hv : L'.all isCell = true) :
    setCells H prot p n 0 L' = some (H.set p (.cells L' e n .var)) := by
  unfold setCells
  rw [h]
  simp only
  rw [if_pos ⟨rfl, hp, by omega, by omega, hv⟩]
  unfold putList
  rw [List.take_zero, List.nil_append, Nat.zero_add, List.drop_of_length_le (by omega), List.append_nil]
theorem set_stay {H : AHeap} {p : Nat} {o : AObj} : Stay (some p) H (H.set p o) := ⟨by simp, fun q _ hq => List.getElem?_set_ne (fun e => hq (by rw [e]))⟩
/-- A variable of an array's type is made. -/
theorem alloc_arr {P : Program} {t n : Nat} {z : Value} (hz : tzero P t = some (.agg ((List.replicate n z).toArray))) (hp : plain0 z = true) (H : AHeap) :
    aalloc P t H = some (.pointer (some ⟨H.length, 0, some n⟩), H ++ [.cells (List.replicate n z) t n .var]) := by
  unfold aalloc
  rw [hz, Option.bind_some]
  have e : cellsOf (.agg ((List.replicate n z).toArray)) = List.replicate n z := by simp [cellsOf, Value.cells]
  rw [e]
  rw [if_pos (by rw [List.all_eq_true]; intro x hx; rw [List.mem_replicate] at hx; rw [hx.2]; exact hp)]
  simp [ptrTo, newVarObj]
end Go.Proofs.Ytkemihfaohkoeaa.Am
namespace Go.Proofs.Ytkemihfaohkoeaa.Am
open Go
/-! Sets of numbers below 512, as eight words. -/
def natOf (f : Nat → Bool) : Nat → Nat
  | 0 => 0
  | n + 1 => natOf f n ||| (if f n then 2 ^ n else 0)
theorem natOf_lt (f : Nat → Bool) : ∀ n, natOf f n < 2 ^ n
  | 0 => by simp [natOf]
  | n + 1 => by
    rw [natOf]
    refine Nat.or_lt_two_pow (Nat.lt_of_lt_of_le (natOf_lt f n) (Nat.pow_le_pow_right (by omega) (by omega))) ?_
    split
    · exact Nat.pow_lt_pow_right (by omega) (by omega)
    · exact Nat.two_pow_pos _
theorem natOf_bit (f : Nat → Bool) (j : Nat) : ∀ n, (natOf f n).testBit j = (decide (j < n) && f j)
  | 0 => by simp [natOf]
  | n + 1 => by
    rw [natOf, Nat.testBit_or, natOf_bit f j n]
    by_cases h : j = n
    · subst h
      cases hf : f j <;> simp [hf, Nat.testBit_two_pow_self]
    · have e1 : decide (j < n + 1) = decide (j < n) := by rw [decide_eq_decide]; omega
      rw [e1]
      have e2 : (if f n = true then 2 ^ n else 0).testBit j = false := by
        split
        · rw [Nat.testBit_two_pow]; simpa using fun e => h e.symm
        · simp
      rw [e2, Bool.or_false]
def wordS (S : Nat → Bool) (w : Nat) : Nat := natOf (fun b => S (64 * w + b)) 64
def setL (S : Nat → Bool) : List Value := (List.range 8).map fun w => .int .u64 ((wordS S w : Nat) : Int)
def setA (S : Nat → Bool) : Array Value := ⟨setL S⟩
theorem setL_len (S : Nat → Bool) : (setL S).length = 8 := by simp [setL]
theorem setL_cell (S : Nat → Bool) : (setL S).all isCell = true := by simp [setL, isCell]
theorem setL_plain (S : Nat → Bool) : (setL S).all plain0 = true := by simp [setL, plain0]
theorem setA_plain (S : Nat → Bool) : plain1 (.agg (setA S)) = true := by
  show (setL S).all plain0 = true
  exact setL_plain S
theorem setL_get {S : Nat → Bool} {w : Nat} (h : w < 8) : (setL S)[w]? = some (.int .u64 ((wordS S w : Nat) : Int)) := by
  unfold setL
  rw [List.getElem?_map, List.getElem?_range h]; rfl
theorem wordS_lt (S : Nat → Bool) (w : Nat) : wordS S w < 18446744073709551616 := natOf_lt _ 64
/-- One number more. -/
def addS (S : Nat → Bool) (i : Nat) : Nat → Bool := fun j => S j || decide (j = i)
def noS : Nat → Bool := fun _ => false
theorem wordS_add {S : Nat → Bool} {i : Nat} : wordS (addS S i) (i / 64) = wordS S (i / 64) ||| 2 ^ (i % 64) := by
  apply Nat.eq_of_testBit_eq
  intro j
  unfold wordS
  rw [Nat.testBit_or, natOf_bit, natOf_bit, Nat.testBit_two_pow]
  unfold addS
  by_cases h : j < 64
  · rw [decide_eq_true h, Bool.true_and, Bool.true_and]
    congr 1
    rw [decide_eq_decide]
    omega
  · rw [decide_eq_false h, Bool.false_and, Bool.false_and, Bool.false_or]
    exact (decide_eq_false (by omega)).symm
theorem wordS_other {S : Nat → Bool} {i w : Nat} (h : w ≠ i / 64) : wordS (addS S i) w = wordS S w := by
  apply Nat.eq_of_testBit_eq
  intro j
  unfold wordS
  rw [natOf_bit, natOf_bit]
  by_cases hj : j < 64
  · unfold addS
    have : decide (64 * w + j = i) = false := decide_eq_false (by omega)
    rw [this, Bool.or_false]
  · rw [decide_eq_false hj, Bool.false_and, Bool.false_and]
theorem setL_add {S : Nat → Bool} {i : Nat} (_h : i < 512) : (setL S).set (i / 64) (.int .u64 ((wordS S (i / 64) ||| 2 ^ (i % 64) : Nat) : Int)) = setL (addS S i) := by
  apply List.ext_getElem?
  intro w
  by_cases hw : w < 8
  · rw [setL_get hw]
    by_cases h : w = i / 64
    · subst h
      rw [List.getElem?_set_self (by rw [setL_len]; exact hw), wordS_add]
    · rw [List.getElem?_set_ne (fun e => h e.symm), setL_get hw, wordS_other h]
  · rw [List.getElem?_eq_none (by rw [List.length_set, setL_len]; omega), List.getElem?_eq_none (by rw [setL_len]; omega)]
theorem setL_no : setL noS = List.replicate 8 (.int .u64 0) := by
  have : ∀ w, wordS noS w = 0 := fun w => by
    apply Nat.eq_of_testBit_eq
    intro j
    unfold wordS
    rw [natOf_bit]
    simp [noS]
  unfold setL
  simp only [this]
  rfl
theorem setL_congr {S T : Nat → Bool} (h : ∀ i, i < 512 → S i = T i) : setL S = setL T := by
  unfold setL
  refine List.map_congr_left fun w hw => ?_
  rw [List.mem_range] at hw
  have : wordS S w = wordS T w := by
    apply Nat.eq_of_testBit_eq
    intro j
    unfold wordS
    rw [natOf_bit, natOf_bit]
    by_cases hj : j < 64
    · rw [h (64 * w + j) (by omega)]
    · rw [decide_eq_false hj, Bool.false_and, Bool.false_and]
  rw [this]
theorem u64_wrapN (n : Nat) : IntKind.u64.wrap (n : Int) = ((n % 18446744073709551616 : Nat) : Int) := by
  simp only [IntKind.wrap]
  show (if (false && decide ((n : Int) % (18446744073709551616 : Int) ≥ (9223372036854775808 : Int))) = true then (n : Int) % (18446744073709551616 : Int) - 18446744073709551616 else (n : Int) % (18446744073709551616 : Int)) = _
  rw [if_neg (by simp)]
  omega
theorem ofInt_natU (n : Nat) (h : n < 18446744073709551616) : (BitVec.ofInt IntKind.u64.bits (n : Int)).toNat = n := by
  show (BitVec.ofInt 64 (n : Int)).toNat = n
  rw [BitVec.ofInt_natCast, BitVec.toNat_ofNat]
  exact Nat.mod_eq_of_lt h
theorem tdiv64 (i : Nat) : (i : Int).tdiv 64 = ((i / 64 : Nat) : Int) := by rw [show (64 : Int) = ((64 : Nat) : Int) from rfl, Int.ofNat_tdiv]
theorem tmod64 (i : Nat) : (i : Int).tmod 64 = ((i % 64 : Nat) : Int) := by rw [show (64 : Int) = ((64 : Nat) : Int) from rfl, Int.ofNat_tmod]
/-- A bit is set. -/
theorem bit_or {a i : Nat} (ha : a < 18446744073709551616) {m : Int} (hm : m = ((i % 64 : Nat) : Int)) :
    IntKind.u64.wrap (((BitVec.ofInt IntKind.u64.bits (a : Int) ||| BitVec.ofInt IntKind.u64.bits (IntKind.u64.wrap (1 * 2 ^ min m.toNat IntKind.u64.bits))).toNat : Nat) : Int) = ((a ||| 2 ^ (i % 64) : Nat) : Int) := by
  subst hm
  have hpow : 2 ^ (i % 64) < 18446744073709551616 := Nat.pow_lt_pow_of_lt (a := 2) (n := i % 64) (m := 64) (by omega) (by omega)
  have hb : min ((i % 64 : Nat) : Int).toNat IntKind.u64.bits = i % 64 := by
    rw [Int.toNat_natCast]
    show min (i % 64) 64 = i % 64
    omega
  have h1 : IntKind.u64.wrap (1 * 2 ^ min ((i % 64 : Nat) : Int).toNat IntKind.u64.bits) = ((2 ^ (i % 64) : Nat) : Int) := by
    rw [hb, Int.one_mul]
    have : ((2 : Int) ^ (i % 64)) = ((2 ^ (i % 64) : Nat) : Int) := by push_cast; rfl
    rw [this, u64_wrapN, Nat.mod_eq_of_lt hpow]
  rw [h1, BitVec.toNat_or, ofInt_natU _ ha, ofInt_natU _ hpow, u64_wrapN]
  have := Nat.or_lt_two_pow (n := 64) ha hpow
  rw [Nat.mod_eq_of_lt this]
/-- A bit is read. -/
theorem bit_and {a i : Nat} (ha : a < 18446744073709551616) {m : Int} (hm : m = ((i % 64 : Nat) : Int)) :
    IntKind.u64.wrap (((BitVec.ofInt IntKind.u64.bits ((a : Int).fdiv (2 ^ min m.toNat IntKind.u64.bits)) &&& BitVec.ofInt IntKind.u64.bits 1).toNat : Nat) : Int) = ((a / 2 ^ (i % 64) % 2 : Nat) : Int) := by
  subst hm
  have hb : min ((i % 64 : Nat) : Int).toNat IntKind.u64.bits = i % 64 := by
    rw [Int.toNat_natCast]
    show min (i % 64) 64 = i % 64
    omega
  rw [hb]
  have hf : ((a : Nat) : Int).fdiv (2 ^ (i % 64)) = ((a / 2 ^ (i % 64) : Nat) : Int) := by
    rw [Int.fdiv_eq_ediv_of_nonneg _ (by exact_mod_cast Nat.zero_le _)]
    push_cast
    rfl
  rw [hf]
  have hlt2 : a / 2 ^ (i % 64) < 18446744073709551616 := Nat.lt_of_le_of_lt (Nat.div_le_self _ _) ha
  have hand : (BitVec.ofInt IntKind.u64.bits ((a / 2 ^ (i % 64) : Nat) : Int) &&& BitVec.ofInt IntKind.u64.bits 1).toNat = a / 2 ^ (i % 64) % 2 := by
    rw [BitVec.toNat_and, ofInt_natU _ hlt2]
    have h1 : (BitVec.ofInt IntKind.u64.bits 1).toNat = 1 := by decide
    rw [h1, Nat.and_one_is_mod]
  rw [hand, u64_wrapN, Nat.mod_eq_of_lt (by omega)]
theorem wordS_bit {S : Nat → Bool} {i : Nat} : (wordS S (i / 64) / 2 ^ (i % 64) % 2 = 1) ↔ S i = true := by
  have h := Nat.testBit_eq_decide_div_mod_eq (x := wordS S (i / 64)) (i := i % 64)
  have h2 : (wordS S (i / 64)).testBit (i % 64) = S i := by
    unfold wordS
    rw [natOf_bit, decide_eq_true (Nat.mod_lt _ (by omega)), Bool.true_and]
    congr 1
    omega
  rw [h2] at h
  rw [h, decide_eq_true_eq]
end Go.Proofs.Ytkemihfaohkoeaa.Am
namespace Go.Proofs.Ytkemihfaohkoeaa.Am
open Go

theorem grow_eq {P : Program} {t e s by_ : Nat} (T : ElemT P t e s by_) {H : AHeap} {x y : Value} (hx : x = .slice none 0 0 ∨ x = emptySlice) {n : Nat} {cs : List Value} (hy : Rd H e s y n cs) (hc : cs.all isCell = true) {prot : Nat} {room : Bool} (hroom : n * by_ ≤ 140737488355328) :
    aappend P prot room t t x y H = some (if n = 0 then (x, H) else (sliceTo H (n * s) n, newObj H cs e)) := by
  obtain ⟨z, hz, hzl⟩ := T.ze
  have hsrc := rd_src (s := s) T.un hy
  have hlen := hy.1
  have hs := T.s0
  have hb := T.b0
  unfold aappend
  rw [T.sl]
  simp only [Option.bind_some]
  rw [T.sz]
  simp only [Option.bind_some]
  rw [T.bt]
  simp only [Option.bind_some]
  rw [hz]
  simp only [Option.bind_some]
  rw [if_pos ⟨trivial, hs, hb, hzl⟩, hsrc]
  simp only [Option.bind_some]
  rw [if_pos ⟨hlen, hc⟩]
  by_cases hn : n = 0
  · rcases hx with rfl | rfl
    · simp only [if_pos hn]
    · simp only [emptySlice, if_pos hn]
  · rcases hx with rfl | rfl
    · simp only [if_neg hn, if_pos hroom]
    · simp only [emptySlice, if_neg hn, if_pos hroom]

/-- A list behind a list of this function's own. -/
theorem own_appR {P : Program} {t e s by_ : Nat} (T : ElemT P t e s by_) {H : AHeap} {x y : Value} {o : Option Nat} {n m : Nat} {cs ds : List Value} (h : Own H e s x o n cs) (hy : Rd H e s y m ds) (hm : 0 < m) (hc : ds.all isCell = true) {prot : Nat} {room : Bool}
    (hp : ∀ id, o = some id → prot ≤ id) (hroom : (n + m) * by_ ≤ 140737488355328) :
    ∃ o' H', aappend P prot room t t x y H = some (.slice (some ⟨o', 0, some ((n + m) * s)⟩) (n + m) (n + m), H') ∧ Own H' e s (.slice (some ⟨o', 0, some ((n + m) * s)⟩) (n + m) (n + m)) (some o') (n + m) (cs ++ ds) ∧ Stay o H H' ∧ (∀ id, o = some id → o' = id) ∧ (o = none → o' = H.length) := by
  have hlen := h.1
  have h2 := h.2
  have hyl := hy.1
  cases o with
  | none =>
    obtain ⟨rfl, hx⟩ := h2
    have hcs : cs = [] := List.length_eq_zero_iff.1 (by omega)
    subst hcs
    have := grow_eq T hx hy hc (prot := prot) (room := room) (by simpa using hroom)
    rw [if_neg (by omega)] at this
    refine ⟨H.length, _, by rw [Nat.zero_add]; exact this, ?_, Stay.app none H _, fun id h => (by cases h), fun _ => rfl⟩
    rw [Nat.zero_add, List.nil_append]
    exact own_new hyl hm hyl.symm rfl
  | some id =>
    obtain ⟨hn, rfl, wr, hwr, hH⟩ := h2
    obtain ⟨z, hz, hzl⟩ := T.ze
    have hsrc := rd_src (s := s) T.un hy
    have hs := T.s0
    have hb := T.b0
    have hl2 : (cs ++ ds).length = (n + m) * s := by rw [List.length_append, hlen, hyl, Nat.add_mul]
    refine ⟨id, H.set id (.cells (cs ++ ds) e wr .row), ?_, ⟨hl2, by omega, by rw [hl2], wr, by rw [List.length_append]; omega, List.getElem?_set_self (List.getElem?_eq_some_iff.1 hH).1⟩, ⟨by simp, fun q _ hq => List.getElem?_set_ne (fun e => hq (by rw [e]))⟩, fun id' h => by cases h; rfl, fun h => by cases h⟩
    unfold aappend
    rw [T.sl]
    simp only [Option.bind_some]
    rw [T.sz]
    simp only [Option.bind_some]
    rw [T.bt]
    simp only [Option.bind_some]
    rw [hz]
    simp only [Option.bind_some]
    rw [if_pos ⟨trivial, hs, hb, hzl⟩, hsrc]
    simp only [Option.bind_some]
    rw [if_pos ⟨hyl, hc⟩, if_neg (by omega), if_neg (by omega), hH]
    simp only
    have hpi := hp id rfl
    rw [if_pos (by refine ⟨?_, hpi, ?_, ?_, ?_, hlen.symm, hroom⟩ <;> first | trivial | rfl)]

end Go.Proofs.Ytkemihfaohkoeaa.Am
namespace Go.Proofs.Ytkemihfaohkoeaa.Am
open Go
end Go.Proofs.Ytkemihfaohkoeaa.Am
namespace Go.Proofs.Ytkemihfaohkoeaa.Am
open Go

/-- A list of one's own that grows and shrinks at its end: nil, or the beginning of a row. -/
def Stk (H : AHeap) (e : Nat) (x : Value) (o : Option Nat) (n : Nat) (cs : List Value) : Prop :=
  cs.length = n ∧
  match o with
  | none => n = 0 ∧ x = .slice none 0 0
  | some id => ∃ all wr, x = .slice (some ⟨id, 0, some all.length⟩) n all.length ∧ n ≤ all.length ∧ wr ≤ all.length ∧ 0 < all.length ∧ H[id]? = some (.cells all e wr .row) ∧ cs = all.take n

theorem Stk.rd {H : AHeap} {e : Nat} {x : Value} {o : Option Nat} {n : Nat} {cs : List Value} (h : Stk H e x o n cs) : Rd H e 1 x n cs := by
  obtain ⟨h1, h2⟩ := h
  refine ⟨by rw [h1, Nat.mul_one], ?_⟩
  cases o with
  | none => exact .inl ⟨h2.1, .inl h2.2⟩
  | some id =>
    obtain ⟨all, wr, rfl, hn, hwr, _, hH, rfl⟩ := h2
    exact .inr ⟨id, all.length, wr, .row, all.length, all, rfl, hwr, Nat.le_refl _, by omega, hH, by rw [Nat.mul_one]⟩
theorem Stk.len {H : AHeap} {e : Nat} {x : Value} {o : Option Nat} {n : Nat} {cs : List Value} (h : Stk H e x o n cs) : ∃ a c, x = .slice a n c := h.rd.len
theorem Stk.stay {H H' : AHeap} {e : Nat} {x : Value} {o o' : Option Nat} {n : Nat} {cs : List Value} (h : Stk H e x o n cs) (k : Stay o' H H') (hne : ∀ id, o = some id → o' ≠ some id) : Stk H' e x o n cs := by
  obtain ⟨h1, h2⟩ := h
  refine ⟨h1, ?_⟩
  cases o with
  | none => exact h2
  | some id =>
    obtain ⟨all, wr, a, b, c, d, f, g⟩ := h2
    exact ⟨all, wr, a, b, c, d, by rw [k.2 id (List.getElem?_eq_some_iff.1 f).1 (hne id rfl)]; exact f, g⟩
theorem Stk.lt {H : AHeap} {e : Nat} {x : Value} {id n : Nat} {cs : List Value} (h : Stk H e x (some id) n cs) : id < H.length := by
  obtain ⟨_, all, wr, _, _, _, _, hH, _⟩ := h
  exact (List.getElem?_eq_some_iff.1 hH).1
theorem stk_nil {H : AHeap} {e : Nat} : Stk H e (.slice none 0 0) none 0 [] := ⟨rfl, rfl, rfl⟩
theorem Own.stk {H : AHeap} {e : Nat} {x : Value} {id n : Nat} {cs : List Value} (h : Own H e 1 x (some id) n cs) : Stk H e x (some id) n cs := by
  obtain ⟨hl, hn, rfl, wr, hwr, hH⟩ := h
  have e1 : cs.length = n := by omega
  exact ⟨e1, cs, wr, by rw [e1], by omega, hwr, by omega, hH, by rw [← e1, List.take_length]⟩

/-- One element more. -/
theorem stk_push {P : Program} {t e by_ : Nat} (T : ElemT P t e 1 by_) {H : AHeap} {x : Value} {o : Option Nat} {n : Nat} {cs : List Value} (h : Stk H e x o n cs) {v : Value} (hv : isCell v = true) {prot : Nat}
    (hp : ∀ id, o = some id → prot ≤ id) (hB : prot ≤ H.length) (hroom : (n + 1) * by_ ≤ 140737488355328) {L : Nat} (hL : L = 1) {el : Nat} (hel : el = 1) :
    ∃ a' c' o' H', aappend P prot true t t x (.slice (some ⟨H.length, 0, some L⟩) 1 1) (H ++ [.cells [v] e el .row]) = some (.slice a' (n + 1) c', H') ∧ Stk H' e (.slice a' (n + 1) c') (some o') (n + 1) (cs ++ [v]) ∧ Stay o H H' ∧ prot ≤ o' ∧ (o = none → H.length ≤ o') ∧ (∀ id, o = some id → o' = id) := by
  obtain ⟨h1, h2⟩ := h
  cases o with
  | none =>
    obtain ⟨rfl, rfl⟩ := h2
    have hcs : cs = [] := List.eq_nil_of_length_eq_zero h1
    subst hcs
    obtain ⟨a', c', o', H', q1, q2, q3, q4, q5, q6⟩ := own_app T (own_nil (H := H) (e := e) (s := 1)) (ecs := [v]) rfl (by simp [hv]) (prot := prot) (room := true) (fun id h => by cases h) hB hroom hL (el := el) hel
    exact ⟨a', c', o', H', q1, q2.stk, q3, q4, q5, q6⟩
  | some id =>
    obtain ⟨all, wr, rfl, hn, hwr, h0, hH, rfl⟩ := h2
    subst hL; subst hel
    obtain ⟨z, hz, hzl⟩ := T.ze
    have hlt := (List.getElem?_eq_some_iff.1 hH).1
    have hH' : (H ++ [AObj.cells [v] e 1 .row])[id]? = some (.cells all e wr .row) := by rw [List.getElem?_append_left hlt]; exact hH
    have hsrc : srcCells P 1 t (.slice (some ⟨H.length, 0, some 1⟩) 1 1) (H ++ [AObj.cells [v] e 1 .row]) = some (1, [v]) := by
      unfold srcCells
      rw [T.un]
      simp only [cellsAt]
      unfold getCells
      rw [append_get.1]
      rfl
    have hcond : t = t ∧ 0 < 1 ∧ 0 < by_ ∧ (cellsOf z).length = 1 := ⟨rfl, by omega, T.b0, hzl⟩
    have hcond2 : ([v] : List Value).length = 1 * 1 ∧ ([v] : List Value).all isCell = true := ⟨rfl, by simp [hv]⟩
    have hpi := hp id rfl
    have hl : (all.take n).length = n := h1
    by_cases hc : n + 1 ≤ all.length
    · have hput : putList all (0 + n * 1) [v] = all.set n v := by
        unfold putList
        rw [Nat.mul_one, Nat.zero_add, List.set_eq_take_append_cons_drop, if_pos (by omega)]
        simp
      refine ⟨_, _, id, (H ++ [AObj.cells [v] e 1 .row]).set id (.cells (all.set n v) e all.length .row), ?_, ⟨by simp [hl], all.set n v, all.length, by rw [List.length_set], by rw [List.length_set]; omega, by rw [List.length_set]; exact Nat.le_refl _, by rw [List.length_set]; exact h0, List.getElem?_set_self (by simp; omega), ?_⟩, ?_, hpi, fun h => (by cases h), fun id' h => (by cases h; rfl)⟩
      · unfold aappend
        rw [T.sl, Option.bind_some, T.sz, Option.bind_some, T.bt, Option.bind_some, hz, Option.bind_some, if_pos hcond, hsrc, Option.bind_some]
        dsimp only
        rw [if_pos hcond2]
        simp only [Nat.one_ne_zero, if_false]
        rw [if_pos hc]
        unfold setCells
        rw [hH']
        simp only [Bool.true_eq_false, if_false]
        rw [if_pos ⟨rfl, hpi, trivial, by simp; omega, by simp [hv]⟩, Option.map_some, hput]
      · rw [List.take_add_one, List.getElem?_set_self (by omega), List.take_set_of_le (Nat.le_refl _)]
        rfl
      · refine ⟨by simp, fun q hq hne => ?_⟩
        rw [List.getElem?_set_ne (fun e => hne (by rw [e])), List.getElem?_append_left hq]
    · have hn2 : n = all.length := by omega
      subst hn2
      rw [List.take_length]
      have el : (all ++ [v]).length = (all.length + 1) * 1 := by simp
      refine ⟨some ⟨id, 0, some ((all.length + 1) * 1)⟩, all.length + 1, id, (H ++ [AObj.cells [v] e 1 .row]).set id (.cells (all ++ [v]) e wr .row), ?_, ⟨by simp, all ++ [v], wr, ?_, by simp, by simp; omega, by simp, List.getElem?_set_self (by simp; omega), ?_⟩, ?_, hpi, fun h => (by cases h), fun id' h => (by cases h; rfl)⟩
      · unfold aappend
        rw [T.sl, Option.bind_some, T.sz, Option.bind_some, T.bt, Option.bind_some, hz, Option.bind_some, if_pos hcond, hsrc, Option.bind_some]
        dsimp only
        rw [if_pos hcond2]
        simp only [Nat.one_ne_zero, if_false]
        rw [if_neg hc, hH']
        simp only [OMode.isRow, true_and]
        rw [if_pos (by refine ⟨hpi, by omega, ?_⟩; simpa using hroom)]
      · simp
      · rw [List.take_of_length_le (by simp)]
      · refine ⟨by simp, fun q hq hne => ?_⟩
        rw [List.getElem?_set_ne (fun e => hne (by rw [e])), List.getElem?_append_left hq]

/-- One element less. -/
theorem stk_pop {P : Program} {t e by_ : Nat} (T : ElemT P t e 1 by_) {H : AHeap} {x : Value} {o : Option Nat} {n : Nat} {cs : List Value} (h : Stk H e x o n cs) (hn : 0 < n) :
    ∃ a' c', aslice P t x none (some (.int .i64 ((n : Int) - 1))) none H = some (.slice a' (n - 1) c') ∧ Stk H e (.slice a' (n - 1) c') o (n - 1) cs.dropLast := by
  obtain ⟨h1, h2⟩ := h
  cases o with
  | none => omega
  | some id =>
    obtain ⟨all, wr, rfl, hna, hwr, h0, hH, rfl⟩ := h2
    refine ⟨some ⟨id, 0, some all.length⟩, all.length, ?_, by simp; omega, all, wr, rfl, by omega, hwr, h0, hH, ?_⟩
    · unfold aslice
      simp only
      rw [T.un]
      have e1 : ((n : Int) - 1).toNat = n - 1 := by omega
      have e2 : (0 : Int) ≤ (n : Int) - 1 := by omega
      simp only [boundOf, Option.bind_some, e2, if_true, T.sz]
      rw [e1, if_pos ⟨Nat.zero_le _, by omega⟩]
      simp
    · rw [List.dropLast_eq_take, List.take_take, List.length_take]
      congr 1
      omega
/-- The last element. -/
theorem rd_last {P : Program} {t e by_ : Nat} (T : ElemT P t e 1 by_) {H : AHeap} {x : Value} {n : Nat} {cs : List Value} (h : Rd H e 1 x (n + 1) cs) {v : Value} (hv : cs[n]? = some v) :
    ∃ id L, aindexAddr P t x (.int .i64 (((n + 1 : Nat) : Int) - 1)) = some (.pointer (some ⟨id, n, some L⟩)) ∧ getCells H id L n 1 = some [v] := by
  have : ((n + 1 : Nat) : Int) - 1 = (n : Int) := by omega
  rw [this]
  exact rd_at T h hv

/-- A list of letters as a text. -/
def lcs (w : List Nat) : List Value := w.map fun c => .int .u8 ((97 + c : Nat) : Int)
end Go.Proofs.Ytkemihfaohkoeaa.Am
namespace Go.Proofs.Ytkemihfaohkoeaa.Am
open Go
abbrev vo (cs : List Value) (e : TypeId) : AObj := .cells cs e cs.length .var
abbrev wo (cs : List Value) (e : TypeId) : AObj := .cells cs e cs.length .row
theorem ai {a b : Prop} (h : a) (k : b) : a ∧ b := ⟨h, k⟩
theorem lp_of2 {C : Cfg} {fn : AFunc} {i prot : Nat} {H0 : AHeap} {s : LS} (hs : List Hint) {r : LS ⊕ LO} {c : Prop} (h : c) (e : c = plp C fn i prot H0 s hs r) : lpOf C fn i prot H0 s = some r := loop_of hs (e.mp h)
theorem fn_of2 {C : Cfg} {f : FuncId} (fn : AFunc) {args : List Value} {prot : Nat} {H : AHeap} (hs : List Hint) {v : Value} {H' : AHeap} {c : Prop} (h : c) (e : c = pcall C fn args prot H hs v H')
    (hf : C.code f = some fn) (hm : fn.memo = none := by rfl) : callInf C f args prot H = some (v, H') := call_of hf hm hs (e.mp h)
end Go.Proofs.Ytkemihfaohkoeaa.Am
set_option linter.unusedVariables false
open Go Go.Proofs.Ytkemihfaohkoeaa.Am
namespace Go.Proofs.Ytkemihfaohkoeaa.Am11
theorem f25_F_0 {x0a : Option Addr} {x0n x0c : Nat} {H : AHeap} {prot : Nat} (h1 : (↑x0n : Int) > 512) : callInf cfg 25 [.slice x0a x0n x0c] prot H = some (Value.int .i64 6, H) :=
  fn_of2 a25 [.e, .e, .b true] (ai (decide_eq_true h1) (Eq.refl ((Value.int .i64 6, H) : Value × AHeap))) (by kernel_rfl) rfl
theorem f25_F_1 {x0a : Option Addr} {x0n x0c : Nat} {H : AHeap} {prot : Nat} {z2 : Value} {H1 : AHeap} (h1 : ¬((↑x0n : Int) > 512)) (h2 : lpInf (lpOf cfg a25 0 prot H) ([Value.slice x0a x0n x0c, Value.slice x0a x0n x0c, Value.int .i64 (↑x0n : Int), Value.int .i64 0], H) = some (Ex.exit 0, [z2], H1)) : callInf cfg 25 [.slice x0a x0n x0c] prot H = some (Value.int .i64 0, H) :=
  fn_of2 a25 [.e, .e, .b false, .e, .lo (.exit 0, [z2], H1)] (ai (decide_eq_false h1) (ai h2 (Eq.refl ((Value.int .i64 0, H) : Value × AHeap)))) (by kernel_rfl) rfl
theorem f25_F_2 {x0a : Option Addr} {x0n x0c : Nat} {H : AHeap} {prot : Nat} {z2 : Int} {H1 : AHeap} (h1 : ¬((↑x0n : Int) > 512)) (h2 : lpInf (lpOf cfg a25 0 prot H) ([Value.slice x0a x0n x0c, Value.slice x0a x0n x0c, Value.int .i64 (↑x0n : Int), Value.int .i64 0], H) = some (Ex.ret, [Value.int .i64 z2], H1)) : callInf cfg 25 [.slice x0a x0n x0c] prot H = some (Value.int .i64 z2, H) :=
  fn_of2 a25 [.e, .e, .b false, .e, .lo (.ret, [.int .i64 z2], H1)] (ai (decide_eq_false h1) (ai h2 (Eq.refl ((Value.int .i64 z2, H) : Value × AHeap)))) (by kernel_rfl) rfl
theorem f25_L0_0 {x0a : Option Addr} {x0n x0c : Nat} {x10a : Option Addr} {x10n x10c : Nat} {x11 x12 : Int} {H0 : AHeap} {prot : Nat} {H : AHeap} {x14p x14o x14l : Nat} {x15a : Option Addr} {x15n x15c : Nat} {z0a : Option Addr} {z0n z0c : Nat} {z2 : Value} {z10a : Option Addr} {z10n z10c : Nat} {z11 z12 : Int} {H2 : AHeap} (h1 : x12 < x11) (h2 : aindexAddr cfg.P 22 (Value.slice x10a x10n x10c) (Value.int .i64 x12) = some (Value.pointer (some ⟨x14p, x14o, some x14l⟩))) (h3 : getCells H x14p x14l x14o 1 = some [Value.slice x15a x15n x15c]) (h4 : lpInf (lpOf cfg a25 1 prot H0) ([Value.slice x0a x0n x0c, Value.slice x10a x10n x10c, Value.int .i64 x11, Value.int .i64 x12, Value.slice x15a x15n x15c, Value.int .i64 (↑x15n : Int), Value.int .i64 0], H) = some (Ex.exit 2, [Value.slice z0a z0n z0c, z2, Value.slice z10a z10n z10c, Value.int .i64 z11, Value.int .i64 z12], H2)) (h5 : Fit .i64 (z12 + 1)) : lpOf cfg a25 0 prot H0 ([.slice x0a x0n x0c, .slice x10a x10n x10c, .int .i64 x11, .int .i64 x12], H) = some (Sum.inl ([Value.slice z0a z0n z0c, Value.slice z10a z10n z10c, Value.int .i64 z11, Value.int .i64 (z12 + 1)], H2)) :=
  lp_of2 [.e, .b true, .v (.pointer (some ⟨x14p, x14o, some x14l⟩)), .v (.slice x15a x15n x15c), .e, .lo (.exit 2, [.slice z0a z0n z0c, z2, .slice z10a z10n z10c, .int .i64 z11, .int .i64 z12], H2), .e] (ai (decide_eq_true h1) (ai h2 (ai h3 (ai h4 (ai h5 (Eq.refl (Sum.inl ([Value.slice z0a z0n z0c, Value.slice z10a z10n z10c, Value.int .i64 z11, Value.int .i64 (z12 + 1)], H2) : LS ⊕ LO))))))) (by kernel_rfl)
theorem f25_L0_1 {x0a : Option Addr} {x0n x0c : Nat} {x10a : Option Addr} {x10n x10c : Nat} {x11 x12 : Int} {H0 : AHeap} {prot : Nat} {H : AHeap} {x14p x14o x14l : Nat} {x15a : Option Addr} {x15n x15c : Nat} {z0 : Value} {z2 : Int} {z10 z11 z12 : Value} {H2 : AHeap} (h1 : x12 < x11) (h2 : aindexAddr cfg.P 22 (Value.slice x10a x10n x10c) (Value.int .i64 x12) = some (Value.pointer (some ⟨x14p, x14o, some x14l⟩))) (h3 : getCells H x14p x14l x14o 1 = some [Value.slice x15a x15n x15c]) (h4 : lpInf (lpOf cfg a25 1 prot H0) ([Value.slice x0a x0n x0c, Value.slice x10a x10n x10c, Value.int .i64 x11, Value.int .i64 x12, Value.slice x15a x15n x15c, Value.int .i64 (↑x15n : Int), Value.int .i64 0], H) = some (Ex.ret, [z0, Value.int .i64 z2, z10, z11, z12], H2)) : lpOf cfg a25 0 prot H0 ([.slice x0a x0n x0c, .slice x10a x10n x10c, .int .i64 x11, .int .i64 x12], H) = some (Sum.inr (Ex.ret, [Value.int .i64 z2], H2)) :=
  lp_of2 [.e, .b true, .v (.pointer (some ⟨x14p, x14o, some x14l⟩)), .v (.slice x15a x15n x15c), .e, .lo (.ret, [z0, .int .i64 z2, z10, z11, z12], H2)] (ai (decide_eq_true h1) (ai h2 (ai h3 (ai h4 (Eq.refl (Sum.inr (Ex.ret, [Value.int .i64 z2], H2) : LS ⊕ LO)))))) (by kernel_rfl)
theorem f25_L0_2 {x0a : Option Addr} {x0n x0c : Nat} {x10a : Option Addr} {x10n x10c : Nat} {x11 x12 : Int} {H0 : AHeap} {prot : Nat} {H : AHeap} (h1 : ¬(x12 < x11)) : lpOf cfg a25 0 prot H0 ([.slice x0a x0n x0c, .slice x10a x10n x10c, .int .i64 x11, .int .i64 x12], H) = some (Sum.inr (Ex.exit 0, [Value.tuple { toList := [] }], H)) :=
  lp_of2 [.e, .b false] (ai (decide_eq_false h1) (Eq.refl (Sum.inr (Ex.exit 0, [Value.tuple { toList := [] }], H) : LS ⊕ LO))) (by kernel_rfl)
theorem f25_L1_0 {x0a : Option Addr} {x0n x0c : Nat} {x10a : Option Addr} {x10n x10c : Nat} {x11 x12 : Int} {x16a : Option Addr} {x16n x16c : Nat} {x17 x18 : Int} {H0 : AHeap} {prot : Nat} {H : AHeap} {x20p x20o x20l : Nat} {x21 : Int} (h1 : x18 < x17) (h2 : aindexAddr cfg.P 34 (Value.slice x16a x16n x16c) (Value.int .i64 x18) = some (Value.pointer (some ⟨x20p, x20o, some x20l⟩))) (h3 : getCells H x20p x20l x20o 1 = some [Value.int .i64 x21]) (h4 : x21 < 0) : lpOf cfg a25 1 prot H0 ([.slice x0a x0n x0c, .slice x10a x10n x10c, .int .i64 x11, .int .i64 x12, .slice x16a x16n x16c, .int .i64 x17, .int .i64 x18], H) = some (Sum.inr (Ex.ret, [Value.slice x0a x0n x0c, Value.int .i64 11, Value.slice x10a x10n x10c, Value.int .i64 x11, Value.int .i64 x12], H)) :=
  lp_of2 [.e, .b true, .v (.pointer (some ⟨x20p, x20o, some x20l⟩)), .v (.int .i64 x21), .e, .b true, .b true, .b true, .b true, .b true, .b true] (ai (decide_eq_true h1) (ai h2 (ai h3 (ai (decide_eq_true h4) (ai (decide_eq_true h4) (ai (decide_eq_true h4) (ai (decide_eq_true h4) (ai (decide_eq_true h4) (ai (Eq.refl true) (Eq.refl (Sum.inr (Ex.ret, [Value.slice x0a x0n x0c, Value.int .i64 11, Value.slice x10a x10n x10c, Value.int .i64 x11, Value.int .i64 x12], H) : LS ⊕ LO))))))))))) (by kernel_rfl)
theorem f25_L1_1 {x0a : Option Addr} {x0n x0c : Nat} {x10a : Option Addr} {x10n x10c : Nat} {x11 x12 : Int} {x16a : Option Addr} {x16n x16c : Nat} {x17 x18 : Int} {H0 : AHeap} {prot : Nat} {H : AHeap} {x20p x20o x20l : Nat} {x21 : Int} (h1 : x18 < x17) (h2 : aindexAddr cfg.P 34 (Value.slice x16a x16n x16c) (Value.int .i64 x18) = some (Value.pointer (some ⟨x20p, x20o, some x20l⟩))) (h3 : getCells H x20p x20l x20o 1 = some [Value.int .i64 x21]) (h4 : ¬(x21 < 0)) (h5 : x21 ≥ (↑x0n : Int)) : lpOf cfg a25 1 prot H0 ([.slice x0a x0n x0c, .slice x10a x10n x10c, .int .i64 x11, .int .i64 x12, .slice x16a x16n x16c, .int .i64 x17, .int .i64 x18], H) = some (Sum.inr (Ex.ret, [Value.slice x0a x0n x0c, Value.int .i64 11, Value.slice x10a x10n x10c, Value.int .i64 x11, Value.int .i64 x12], H)) :=
  lp_of2 [.e, .b true, .v (.pointer (some ⟨x20p, x20o, some x20l⟩)), .v (.int .i64 x21), .e, .b false, .b false, .b false, .e, .b false, .e, .b false, .b true] (ai (decide_eq_true h1) (ai h2 (ai h3 (ai (decide_eq_false h4) (ai (decide_eq_false h4) (ai (decide_eq_false h4) (ai (decide_eq_false h4) (ai (decide_eq_false h4) (ai (decide_eq_true h5) (Eq.refl (Sum.inr (Ex.ret, [Value.slice x0a x0n x0c, Value.int .i64 11, Value.slice x10a x10n x10c, Value.int .i64 x11, Value.int .i64 x12], H) : LS ⊕ LO))))))))))) (by kernel_rfl)
theorem f25_L1_2 {x0a : Option Addr} {x0n x0c : Nat} {x10a : Option Addr} {x10n x10c : Nat} {x11 x12 : Int} {x16a : Option Addr} {x16n x16c : Nat} {x17 x18 : Int} {H0 : AHeap} {prot : Nat} {H : AHeap} {x20p x20o x20l : Nat} {x21 : Int} (h1 : x18 < x17) (h2 : aindexAddr cfg.P 34 (Value.slice x16a x16n x16c) (Value.int .i64 x18) = some (Value.pointer (some ⟨x20p, x20o, some x20l⟩))) (h3 : getCells H x20p x20l x20o 1 = some [Value.int .i64 x21]) (h4 : ¬(x21 < 0)) (h5 : ¬(x21 ≥ (↑x0n : Int))) (h6 : Fit .i64 (x18 + 1)) : lpOf cfg a25 1 prot H0 ([.slice x0a x0n x0c, .slice x10a x10n x10c, .int .i64 x11, .int .i64 x12, .slice x16a x16n x16c, .int .i64 x17, .int .i64 x18], H) = some (Sum.inl ([Value.slice x0a x0n x0c, Value.slice x10a x10n x10c, Value.int .i64 x11, Value.int .i64 x12, Value.slice x16a x16n x16c, Value.int .i64 x17, Value.int .i64 (x18 + 1)], H)) :=
  lp_of2 [.e, .b true, .v (.pointer (some ⟨x20p, x20o, some x20l⟩)), .v (.int .i64 x21), .e, .b false, .b false, .b false, .e, .b false, .e, .b false, .b false, .e] (ai (decide_eq_true h1) (ai h2 (ai h3 (ai (decide_eq_false h4) (ai (decide_eq_false h4) (ai (decide_eq_false h4) (ai (decide_eq_false h4) (ai (decide_eq_false h4) (ai (decide_eq_false h5) (ai h6 (Eq.refl (Sum.inl ([Value.slice x0a x0n x0c, Value.slice x10a x10n x10c, Value.int .i64 x11, Value.int .i64 x12, Value.slice x16a x16n x16c, Value.int .i64 x17, Value.int .i64 (x18 + 1)], H) : LS ⊕ LO)))))))))))) (by kernel_rfl)
theorem f25_L1_3 {x0a : Option Addr} {x0n x0c : Nat} {x10a : Option Addr} {x10n x10c : Nat} {x11 x12 : Int} {x16a : Option Addr} {x16n x16c : Nat} {x17 x18 : Int} {H0 : AHeap} {prot : Nat} {H : AHeap} (h1 : ¬(x18 < x17)) : lpOf cfg a25 1 prot H0 ([.slice x0a x0n x0c, .slice x10a x10n x10c, .int .i64 x11, .int .i64 x12, .slice x16a x16n x16c, .int .i64 x17, .int .i64 x18], H) = some (Sum.inr (Ex.exit 2, [Value.slice x0a x0n x0c, Value.tuple { toList := [] }, Value.slice x10a x10n x10c, Value.int .i64 x11, Value.int .i64 x12], H)) :=
  lp_of2 [.e, .b false] (ai (decide_eq_false h1) (Eq.refl (Sum.inr (Ex.exit 2, [Value.slice x0a x0n x0c, Value.tuple { toList := [] }, Value.slice x10a x10n x10c, Value.int .i64 x11, Value.int .i64 x12], H) : LS ⊕ LO))) (by kernel_rfl)
end Go.Proofs.Ytkemihfaohkoeaa.Am11
set_option linter.unusedVariables false
open Go Go.Proofs.Ytkemihfaohkoeaa.Am
namespace Go.Proofs.Ytkemihfaohkoeaa.Am11
theorem f26_F_0 {x0a : Option Addr} {x0n x0c : Nat} {H : AHeap} {prot : Nat} (h1 : (↑x0n : Int) > 512) : callInf cfg 26 [.slice x0a x0n x0c] prot H = some (Value.int .i64 6, H) :=
  fn_of2 a26 [.e, .e, .b true] (ai (decide_eq_true h1) (Eq.refl ((Value.int .i64 6, H) : Value × AHeap))) (by kernel_rfl) rfl
theorem f26_F_1 {x0a : Option Addr} {x0n x0c : Nat} {H : AHeap} {prot : Nat} {z2 : Value} {H1 : AHeap} (h1 : ¬((↑x0n : Int) > 512)) (h2 : lpInf (lpOf cfg a26 0 prot H) ([Value.slice x0a x0n x0c, Value.int .i64 0], H) = some (Ex.exit 0, [z2], H1)) : callInf cfg 26 [.slice x0a x0n x0c] prot H = some (Value.int .i64 0, H) :=
  fn_of2 a26 [.e, .e, .b false, .lo (.exit 0, [z2], H1)] (ai (decide_eq_false h1) (ai h2 (Eq.refl ((Value.int .i64 0, H) : Value × AHeap)))) (by kernel_rfl) rfl
theorem f26_F_2 {x0a : Option Addr} {x0n x0c : Nat} {H : AHeap} {prot : Nat} {z2 : Int} {H1 : AHeap} (h1 : ¬((↑x0n : Int) > 512)) (h2 : lpInf (lpOf cfg a26 0 prot H) ([Value.slice x0a x0n x0c, Value.int .i64 0], H) = some (Ex.ret, [Value.int .i64 z2], H1)) : callInf cfg 26 [.slice x0a x0n x0c] prot H = some (Value.int .i64 z2, H) :=
  fn_of2 a26 [.e, .e, .b false, .lo (.ret, [.int .i64 z2], H1)] (ai (decide_eq_false h1) (ai h2 (Eq.refl ((Value.int .i64 z2, H) : Value × AHeap)))) (by kernel_rfl) rfl
theorem f26_L0_0 {x0a : Option Addr} {x0n x0c : Nat} {x3 : Int} {H0 : AHeap} {prot : Nat} {H : AHeap} {z0a : Option Addr} {z0n z0c : Nat} {z2 : Value} {z3 : Int} {H2 : AHeap} (h1 : x3 < (↑x0n : Int)) (h2 : lpInf (lpOf cfg a26 1 prot H0) ([Value.slice x0a x0n x0c, Value.int .i64 x3, Value.int .i64 0], H) = some (Ex.exit 2, [Value.slice z0a z0n z0c, z2, Value.int .i64 z3], H2)) (h3 : Fit .i64 (z3 + 1)) : lpOf cfg a26 0 prot H0 ([.slice x0a x0n x0c, .int .i64 x3], H) = some (Sum.inl ([Value.slice z0a z0n z0c, Value.int .i64 (z3 + 1)], H2)) :=
  lp_of2 [.e, .e, .b true, .lo (.exit 2, [.slice z0a z0n z0c, z2, .int .i64 z3], H2), .e] (ai (decide_eq_true h1) (ai h2 (ai h3 (Eq.refl (Sum.inl ([Value.slice z0a z0n z0c, Value.int .i64 (z3 + 1)], H2) : LS ⊕ LO))))) (by kernel_rfl)
theorem f26_L0_1 {x0a : Option Addr} {x0n x0c : Nat} {x3 : Int} {H0 : AHeap} {prot : Nat} {H : AHeap} {z0 : Value} {z2 : Int} {z3 : Value} {H2 : AHeap} (h1 : x3 < (↑x0n : Int)) (h2 : lpInf (lpOf cfg a26 1 prot H0) ([Value.slice x0a x0n x0c, Value.int .i64 x3, Value.int .i64 0], H) = some (Ex.ret, [z0, Value.int .i64 z2, z3], H2)) : lpOf cfg a26 0 prot H0 ([.slice x0a x0n x0c, .int .i64 x3], H) = some (Sum.inr (Ex.ret, [Value.int .i64 z2], H2)) :=
  lp_of2 [.e, .e, .b true, .lo (.ret, [z0, .int .i64 z2, z3], H2)] (ai (decide_eq_true h1) (ai h2 (Eq.refl (Sum.inr (Ex.ret, [Value.int .i64 z2], H2) : LS ⊕ LO)))) (by kernel_rfl)
theorem f26_L0_2 {x0a : Option Addr} {x0n x0c : Nat} {x3 : Int} {H0 : AHeap} {prot : Nat} {H : AHeap} (h1 : ¬(x3 < (↑x0n : Int))) : lpOf cfg a26 0 prot H0 ([.slice x0a x0n x0c, .int .i64 x3], H) = some (Sum.inr (Ex.exit 0, [Value.tuple { toList := [] }], H)) :=
  lp_of2 [.e, .e, .b false] (ai (decide_eq_false h1) (Eq.refl (Sum.inr (Ex.exit 0, [Value.tuple { toList := [] }], H) : LS ⊕ LO))) (by kernel_rfl)
theorem f26_L1_0 {x0a : Option Addr} {x0n x0c : Nat} {x3 x4 : Int} {H0 : AHeap} {prot : Nat} {H : AHeap} {x17p x17o x17l : Nat} {x18a : Option Addr} {x18n x18c x25p x25o x25l : Nat} {x26a : Option Addr} {x26n x26c x28p x28o x28l : Nat} {x29 : Int} (h1 : aindexAddr cfg.P 22 (Value.slice x0a x0n x0c) (Value.int .i64 x3) = some (Value.pointer (some ⟨x17p, x17o, some x17l⟩))) (h2 : getCells H x17p x17l x17o 1 = some [Value.slice x18a x18n x18c]) (h3 : x4 < (↑x18n : Int)) (h4 : aindexAddr cfg.P 22 (Value.slice x0a x0n x0c) (Value.int .i64 x3) = some (Value.pointer (some ⟨x25p, x25o, some x25l⟩))) (h5 : getCells H x25p x25l x25o 1 = some [Value.slice x26a x26n x26c]) (h6 : aindexAddr cfg.P 34 (Value.slice x26a x26n x26c) (Value.int .i64 x4) = some (Value.pointer (some ⟨x28p, x28o, some x28l⟩))) (h7 : getCells H x28p x28l x28o 1 = some [Value.int .i64 x29]) (h8 : x29 < 0) : lpOf cfg a26 1 prot H0 ([.slice x0a x0n x0c, .int .i64 x3, .int .i64 x4], H) = some (Sum.inr (Ex.ret, [Value.slice x0a x0n x0c, Value.int .i64 11, Value.int .i64 x3], H)) :=
  lp_of2 [.v (.pointer (some ⟨x17p, x17o, some x17l⟩)), .v (.slice x18a x18n x18c), .e, .e, .b true, .v (.pointer (some ⟨x25p, x25o, some x25l⟩)), .v (.slice x26a x26n x26c), .v (.pointer (some ⟨x28p, x28o, some x28l⟩)), .v (.int .i64 x29), .e, .b true, .b true, .b true, .b true, .b true, .b true, .b true, .b true, .b true, .b true, .b true, .b true] (ai h1 (ai h2 (ai (decide_eq_true h3) (ai h4 (ai h5 (ai h6 (ai h7 (ai (decide_eq_true h8) (ai (decide_eq_true h8) (ai (decide_eq_true h8) (ai (decide_eq_true h8) (ai (decide_eq_true h8) (ai (decide_eq_true h8) (ai (decide_eq_true h8) (ai (decide_eq_true h8) (ai (decide_eq_true h8) (ai (decide_eq_true h8) (ai (decide_eq_true h8) (ai (Eq.refl true) (Eq.refl (Sum.inr (Ex.ret, [Value.slice x0a x0n x0c, Value.int .i64 11, Value.int .i64 x3], H) : LS ⊕ LO))))))))))))))))))))) (by kernel_rfl)
theorem f26_L1_1 {x0a : Option Addr} {x0n x0c : Nat} {x3 x4 : Int} {H0 : AHeap} {prot : Nat} {H : AHeap} {x17p x17o x17l : Nat} {x18a : Option Addr} {x18n x18c x25p x25o x25l : Nat} {x26a : Option Addr} {x26n x26c x28p x28o x28l : Nat} {x29 : Int} {x34p x34o x34l : Nat} {x35a : Option Addr} {x35n x35c x37p x37o x37l : Nat} {x38 : Int} (h1 : aindexAddr cfg.P 22 (Value.slice x0a x0n x0c) (Value.int .i64 x3) = some (Value.pointer (some ⟨x17p, x17o, some x17l⟩))) (h2 : getCells H x17p x17l x17o 1 = some [Value.slice x18a x18n x18c]) (h3 : x4 < (↑x18n : Int)) (h4 : aindexAddr cfg.P 22 (Value.slice x0a x0n x0c) (Value.int .i64 x3) = some (Value.pointer (some ⟨x25p, x25o, some x25l⟩))) (h5 : getCells H x25p x25l x25o 1 = some [Value.slice x26a x26n x26c]) (h6 : aindexAddr cfg.P 34 (Value.slice x26a x26n x26c) (Value.int .i64 x4) = some (Value.pointer (some ⟨x28p, x28o, some x28l⟩))) (h7 : getCells H x28p x28l x28o 1 = some [Value.int .i64 x29]) (h8 : ¬(x29 < 0)) (h9 : aindexAddr cfg.P 22 (Value.slice x0a x0n x0c) (Value.int .i64 x3) = some (Value.pointer (some ⟨x34p, x34o, some x34l⟩))) (h10 : getCells H x34p x34l x34o 1 = some [Value.slice x35a x35n x35c]) (h11 : aindexAddr cfg.P 34 (Value.slice x35a x35n x35c) (Value.int .i64 x4) = some (Value.pointer (some ⟨x37p, x37o, some x37l⟩))) (h12 : getCells H x37p x37l x37o 1 = some [Value.int .i64 x38]) (h13 : x38 ≥ (↑x0n : Int)) : lpOf cfg a26 1 prot H0 ([.slice x0a x0n x0c, .int .i64 x3, .int .i64 x4], H) = some (Sum.inr (Ex.ret, [Value.slice x0a x0n x0c, Value.int .i64 11, Value.int .i64 x3], H)) :=
  lp_of2 [.v (.pointer (some ⟨x17p, x17o, some x17l⟩)), .v (.slice x18a x18n x18c), .e, .e, .b true, .v (.pointer (some ⟨x25p, x25o, some x25l⟩)), .v (.slice x26a x26n x26c), .v (.pointer (some ⟨x28p, x28o, some x28l⟩)), .v (.int .i64 x29), .e, .b false, .b false, .b false, .v (.pointer (some ⟨x34p, x34o, some x34l⟩)), .b false, .v (.slice x35a x35n x35c), .b false, .b false, .v (.pointer (some ⟨x37p, x37o, some x37l⟩)), .b false, .v (.int .i64 x38), .b false, .b false, .e, .b false, .e, .b false, .b true] (ai h1 (ai h2 (ai (decide_eq_true h3) (ai h4 (ai h5 (ai h6 (ai h7 (ai (decide_eq_false h8) (ai (decide_eq_false h8) (ai (decide_eq_false h8) (ai h9 (ai (decide_eq_false h8) (ai h10 (ai (decide_eq_false h8) (ai (decide_eq_false h8) (ai h11 (ai (decide_eq_false h8) (ai h12 (ai (decide_eq_false h8) (ai (decide_eq_false h8) (ai (decide_eq_false h8) (ai (decide_eq_false h8) (ai (decide_eq_true h13) (Eq.refl (Sum.inr (Ex.ret, [Value.slice x0a x0n x0c, Value.int .i64 11, Value.int .i64 x3], H) : LS ⊕ LO))))))))))))))))))))))))) (by kernel_rfl)
theorem f26_L1_2 {x0a : Option Addr} {x0n x0c : Nat} {x3 x4 : Int} {H0 : AHeap} {prot : Nat} {H : AHeap} {x17p x17o x17l : Nat} {x18a : Option Addr} {x18n x18c x25p x25o x25l : Nat} {x26a : Option Addr} {x26n x26c x28p x28o x28l : Nat} {x29 : Int} {x34p x34o x34l : Nat} {x35a : Option Addr} {x35n x35c x37p x37o x37l : Nat} {x38 : Int} (h1 : aindexAddr cfg.P 22 (Value.slice x0a x0n x0c) (Value.int .i64 x3) = some (Value.pointer (some ⟨x17p, x17o, some x17l⟩))) (h2 : getCells H x17p x17l x17o 1 = some [Value.slice x18a x18n x18c]) (h3 : x4 < (↑x18n : Int)) (h4 : aindexAddr cfg.P 22 (Value.slice x0a x0n x0c) (Value.int .i64 x3) = some (Value.pointer (some ⟨x25p, x25o, some x25l⟩))) (h5 : getCells H x25p x25l x25o 1 = some [Value.slice x26a x26n x26c]) (h6 : aindexAddr cfg.P 34 (Value.slice x26a x26n x26c) (Value.int .i64 x4) = some (Value.pointer (some ⟨x28p, x28o, some x28l⟩))) (h7 : getCells H x28p x28l x28o 1 = some [Value.int .i64 x29]) (h8 : ¬(x29 < 0)) (h9 : aindexAddr cfg.P 22 (Value.slice x0a x0n x0c) (Value.int .i64 x3) = some (Value.pointer (some ⟨x34p, x34o, some x34l⟩))) (h10 : getCells H x34p x34l x34o 1 = some [Value.slice x35a x35n x35c]) (h11 : aindexAddr cfg.P 34 (Value.slice x35a x35n x35c) (Value.int .i64 x4) = some (Value.pointer (some ⟨x37p, x37o, some x37l⟩))) (h12 : getCells H x37p x37l x37o 1 = some [Value.int .i64 x38]) (h13 : ¬(x38 ≥ (↑x0n : Int))) (h14 : Fit .i64 (x4 + 1)) : lpOf cfg a26 1 prot H0 ([.slice x0a x0n x0c, .int .i64 x3, .int .i64 x4], H) = some (Sum.inl ([Value.slice x0a x0n x0c, Value.int .i64 x3, Value.int .i64 (x4 + 1)], H)) :=
  lp_of2 [.v (.pointer (some ⟨x17p, x17o, some x17l⟩)), .v (.slice x18a x18n x18c), .e, .e, .b true, .v (.pointer (some ⟨x25p, x25o, some x25l⟩)), .v (.slice x26a x26n x26c), .v (.pointer (some ⟨x28p, x28o, some x28l⟩)), .v (.int .i64 x29), .e, .b false, .b false, .b false, .v (.pointer (some ⟨x34p, x34o, some x34l⟩)), .b false, .v (.slice x35a x35n x35c), .b false, .b false, .v (.pointer (some ⟨x37p, x37o, some x37l⟩)), .b false, .v (.int .i64 x38), .b false, .b false, .e, .b false, .e, .b false, .b false, .e] (ai h1 (ai h2 (ai (decide_eq_true h3) (ai h4 (ai h5 (ai h6 (ai h7 (ai (decide_eq_false h8) (ai (decide_eq_false h8) (ai (decide_eq_false h8) (ai h9 (ai (decide_eq_false h8) (ai h10 (ai (decide_eq_false h8) (ai (decide_eq_false h8) (ai h11 (ai (decide_eq_false h8) (ai h12 (ai (decide_eq_false h8) (ai (decide_eq_false h8) (ai (decide_eq_false h8) (ai (decide_eq_false h8) (ai (decide_eq_false h13) (ai h14 (Eq.refl (Sum.inl ([Value.slice x0a x0n x0c, Value.int .i64 x3, Value.int .i64 (x4 + 1)], H) : LS ⊕ LO)))))))))))))))))))))))))) (by kernel_rfl)
theorem f26_L1_3 {x0a : Option Addr} {x0n x0c : Nat} {x3 x4 : Int} {H0 : AHeap} {prot : Nat} {H : AHeap} {x17p x17o x17l : Nat} {x18a : Option Addr} {x18n x18c : Nat} (h1 : aindexAddr cfg.P 22 (Value.slice x0a x0n x0c) (Value.int .i64 x3) = some (Value.pointer (some ⟨x17p, x17o, some x17l⟩))) (h2 : getCells H x17p x17l x17o 1 = some [Value.slice x18a x18n x18c]) (h3 : ¬(x4 < (↑x18n : Int))) : lpOf cfg a26 1 prot H0 ([.slice x0a x0n x0c, .int .i64 x3, .int .i64 x4], H) = some (Sum.inr (Ex.exit 2, [Value.slice x0a x0n x0c, Value.tuple { toList := [] }, Value.int .i64 x3], H)) :=
  lp_of2 [.v (.pointer (some ⟨x17p, x17o, some x17l⟩)), .v (.slice x18a x18n x18c), .e, .e, .b false] (ai h1 (ai h2 (ai (decide_eq_false h3) (Eq.refl (Sum.inr (Ex.exit 2, [Value.slice x0a x0n x0c, Value.tuple { toList := [] }, Value.int .i64 x3], H) : LS ⊕ LO))))) (by kernel_rfl)
end Go.Proofs.Ytkemihfaohkoeaa.Am11
namespace Go.Proofs.Ytkemihfaohkoeaa.Am11
open Go Go.Proofs.Ytkemihfaohkoeaa.Am
theorem T22 : ElemT cfg.P 22 34 1 24 := ⟨by kernel_rfl, by kernel_rfl, by kernel_rfl, ⟨.slice none 0 0, by kernel_rfl, rfl⟩, by kernel_rfl, by omega, by omega⟩
theorem T34 : ElemT cfg.P 34 3 1 8 := ⟨by kernel_rfl, by kernel_rfl, by kernel_rfl, ⟨.int .i64 0, by kernel_rfl, rfl⟩, by kernel_rfl, by omega, by omega⟩
def il (l : List Int) : List Value := l.map (.int .i64)
theorem il_get {l : List Int} {i : Nat} (h : i < l.length) : (il l)[i]? = some (.int .i64 l[i]) := by simp [il, h]
theorem il_cell (l) : (il l).all isCell = true := by simp [il, isCell]
theorem il_plain (l) : (il l).all plain0 = true := by simp [il, plain0]
/-- A graph that may be read. -/
def Gr (H : AHeap) (v : Value) (G : List (List Int)) : Prop := ∃ cs, Rd H 34 1 v G.length cs ∧ ∀ (i : Nat) (l : List Int), G[i]? = some l → ∃ r, cs[i]? = some r ∧ Rd H 3 1 r l.length (il l)
theorem Gr.stay {H H' : AHeap} {v : Value} {G : List (List Int)} (h : Gr H v G) (s : Stay none H H') : Gr H' v G := by
  obtain ⟨cs, h1, h2⟩ := h
  exact ⟨cs, h1.stay s, fun i l hl => by obtain ⟨r, a, b⟩ := h2 i l hl; exact ⟨r, a, b.stay s⟩⟩
theorem Gr.len {H : AHeap} {v : Value} {G : List (List Int)} (h : Gr H v G) : ∃ a c, v = .slice a G.length c := by
  obtain ⟨cs, h1, _⟩ := h
  exact h1.len
theorem Gr.row {H : AHeap} {v : Value} {G : List (List Int)} (h : Gr H v G) {i : Nat} (hi : i < G.length) :
    ∃ id L r, aindexAddr cfg.P 22 v (.int .i64 i) = some (.pointer (some ⟨id, i, some L⟩)) ∧ getCells H id L i 1 = some [r] ∧ Rd H 3 1 r G[i].length (il G[i]) := by
  obtain ⟨cs, h1, h2⟩ := h
  obtain ⟨r, a, b⟩ := h2 i G[i] (List.getElem?_eq_getElem hi)
  obtain ⟨id, L, p, q⟩ := rd_at T22 h1 a
  exact ⟨id, L, r, p, q, b⟩
/-- Lists are not too long. -/
def Short (G : List (List Int)) : Prop := ∀ l ∈ G, l.length ≤ 140737488355328
def bad (n : Nat) (l : List Int) : Bool := l.any fun x => decide (x < 0 ∨ (n : Int) ≤ x)
/-- What Check answers. -/
def chk (G : List (List Int)) : Int := if 512 < G.length then 6 else if G.any (bad G.length) then 11 else 0

theorem loop25i {G : List (List Int)} {x y r : Value} {m j : Int} {H0 H : AHeap} {prot : Nat} {l : List Int} (hl : l.length ≤ 140737488355328) (hx : ∃ a c, x = .slice a G.length c) (hy : ∃ a n c, y = .slice a n c) (hr : Rd H 3 1 r l.length (il l)) : ∀ (d i : Nat), i + d = l.length →
    lpInf (lpOf cfg a25 1 prot H0) ([x, y, .int .i64 m, .int .i64 j, r, .int .i64 l.length, .int .i64 i], H) =
      some (if bad G.length (l.drop i) then (.ret, [x, .int .i64 11, y, .int .i64 m, .int .i64 j], H) else (.exit 2, [x, .tuple #[], y, .int .i64 m, .int .i64 j], H))
  | 0, i, hi => by
    rw [List.drop_of_length_le (by omega)]
    obtain ⟨_, _, rfl⟩ := hx
    obtain ⟨_, _, _, rfl⟩ := hy
    obtain ⟨_, _, rfl⟩ := hr.len
    exact lp_last (f25_L1_3 (by omega))
  | d + 1, i, hi => by
    have hil : i < l.length := by omega
    obtain ⟨id, L, p, q⟩ := rd_at T34 hr (il_get hil)
    have ih := loop25i hl hx hy hr (m := m) (j := j) (H0 := H0) (prot := prot) d (i + 1) (by omega)
    rw [List.drop_eq_getElem_cons hil]
    unfold bad at ih ⊢
    rw [List.any_cons]
    obtain ⟨_, _, rfl⟩ := hx
    obtain ⟨_, _, _, rfl⟩ := hy
    obtain ⟨_, _, rfl⟩ := hr.len
    by_cases h1 : l[i] < 0
    · rw [decide_eq_true (.inl h1), Bool.true_or, if_pos rfl]
      exact lp_last (f25_L1_0 (by omega) p q h1)
    · by_cases h2 : (G.length : Int) ≤ l[i]
      · rw [decide_eq_true (.inr h2), Bool.true_or, if_pos rfl]
        exact lp_last (f25_L1_1 (by omega) p q h1 (by omega))
      · rw [decide_eq_false (by omega), Bool.false_or]
        exact lp_next (f25_L1_2 (by omega) p q h1 (by omega) (fit64 (by omega) (by omega))) ih
theorem loop25o {G : List (List Int)} (hs : Short G) (hn : G.length ≤ 512) {x : Value} {H0 H : AHeap} {prot : Nat} (hx : Gr H x G) : ∀ (d i : Nat), i + d = G.length →
    ∃ e vs, lpInf (lpOf cfg a25 0 prot H0) ([x, x, .int .i64 G.length, .int .i64 i], H) = some (e, vs, H) ∧ ((e = .exit 0 ∧ vs = [.tuple #[]] ∧ (G.drop i).any (bad G.length) = false) ∨ (e = .ret ∧ vs = [.int .i64 11] ∧ (G.drop i).any (bad G.length) = true))
  | 0, i, hi => by
    rw [List.drop_of_length_le (by omega)]
    obtain ⟨_, _, rfl⟩ := hx.len
    exact ⟨_, _, lp_last (f25_L0_2 (by omega)), .inl ⟨rfl, rfl, rfl⟩⟩
  | d + 1, i, hi => by
    have hil : i < G.length := by omega
    obtain ⟨id, L, r, p, q, hr⟩ := hx.row hil
    obtain ⟨e, vs, z1, z2⟩ := loop25o hs hn hx (H0 := H0) (prot := prot) d (i + 1) (by omega)
    have hlp := loop25i (G := G) (hs _ (List.getElem_mem hil)) hx.len (by obtain ⟨a, c, h⟩ := hx.len; exact ⟨a, _, c, h⟩) hr (m := (G.length : Int)) (j := (i : Int)) (H0 := H0) (prot := prot) (G[i]).length 0 (by omega)
    rw [List.drop_zero] at hlp
    rw [List.drop_eq_getElem_cons hil, List.any_cons]
    obtain ⟨_, _, rfl⟩ := hx.len
    obtain ⟨_, _, rfl⟩ := hr.len
    cases hb : bad G.length G[i] with
    | true =>
      rw [hb, if_pos rfl] at hlp
      exact ⟨_, _, lp_last (f25_L0_1 (by omega) p q hlp), .inr ⟨rfl, rfl, rfl⟩⟩
    | false =>
      rw [hb, if_neg (by simp)] at hlp
      exact ⟨e, vs, lp_next (f25_L0_0 (by omega) p q hlp (fit64 (by omega) (by omega))) z1, z2⟩
theorem c25 {G : List (List Int)} (hs : Short G) {x : Value} (prot : Nat) {H : AHeap} (hx : Gr H x G) : callInf cfg 25 [x] prot H = some (.int .i64 (chk G), H) := by
  obtain ⟨a, c, hxe⟩ := hx.len
  unfold chk
  by_cases h : 512 < G.length
  · rw [if_pos h]
    subst hxe
    exact f25_F_0 (by omega)
  · rw [if_neg h]
    obtain ⟨e, vs, z1, z2⟩ := loop25o hs (by omega) hx (H0 := H) (prot := prot) G.length 0 (by omega)
    rw [List.drop_zero] at z2
    subst hxe
    rcases z2 with ⟨rfl, rfl, h3⟩ | ⟨rfl, rfl, h3⟩
    · rw [h3, if_neg (by simp)]
      exact f25_F_1 (by omega) z1
    · rw [h3, if_pos rfl]
      exact f25_F_2 (by omega) z1
/-- A good graph: its edges lead to its vertices. -/
def Good (G : List (List Int)) : Prop := G.length ≤ 512 ∧ Short G ∧ ∀ (i : Nat) (l : List Int) (x : Int), G[i]? = some l → x ∈ l → 0 ≤ x ∧ x < G.length
theorem good_of {G : List (List Int)} (hs : Short G) (h : chk G = 0) : Good G := by
  unfold chk at h
  split at h
  · cases h
  · split at h
    · cases h
    · rename_i h1 h2
      refine ⟨by omega, hs, fun i l x hl hx => ?_⟩
      have h3 : G.any (bad G.length) = false := by simpa using h2
      rw [List.any_eq_false] at h3
      have h4 := h3 l (List.mem_of_getElem? hl)
      have h5 : bad G.length l = false := by simpa using h4
      unfold bad at h5
      rw [List.any_eq_false] at h5
      have h6 := h5 x hx
      simp at h6
      omega
end Go.Proofs.Ytkemihfaohkoeaa.Am11
namespace Go.Proofs.Ytkemihfaohkoeaa.Am11
/-! Ways in a graph; what is marked depth first. -/
def sc (G : List (List Int)) (v : Nat) : List Nat := (G.getD v []).map Int.toNat
/-- A way that is not empty. -/
inductive Rch (G : List (List Int)) : Nat → Nat → Prop
  | one {v u : Nat} : u ∈ sc G v → Rch G v u
  | step {v w u : Nat} : Rch G v w → u ∈ sc G w → Rch G v u
theorem Rch.trans {G : List (List Int)} {a b c : Nat} (h : Rch G a b) (k : Rch G b c) : Rch G a c := by
  induction k with
  | one e => exact .step h e
  | step _ e ih => exact .step ih e
def at_ (M : List Bool) (u : Nat) : Bool := M.getD u false
theorem at_set {M : List Bool} {u x : Nat} (hu : u < M.length) : at_ (M.set u true) x = (decide (x = u) || at_ M x) := by
  unfold at_
  by_cases h : x = u
  · subst h; simp [List.getD_eq_getElem?_getD, hu]
  · rw [List.getD_eq_getElem?_getD, List.getElem?_set_ne (fun e => h e.symm), ← List.getD_eq_getElem?_getD]; simp [h]
def unm (M : List Bool) : Nat := M.countP (!·)
theorem unm_set : ∀ (m : List Bool) (t : Nat), t < m.length → at_ m t = false → unm (m.set t true) + 1 = unm m
  | [], t, h, _ => by simp at h
  | b :: m, 0, _, hb => by
    have : b = false := by simpa [at_] using hb
    subst this
    simp [unm]
  | b :: m, t + 1, h, hb => by
    have ih := unm_set m t (by simpa using h) (by simpa [at_] using hb)
    unfold unm at ih ⊢
    rw [List.set_cons_succ, List.countP_cons, List.countP_cons]
    omega
theorem unm_mono : ∀ {a b : List Bool}, a.length = b.length → (∀ x, at_ a x = true → at_ b x = true) → unm b ≤ unm a
  | [], [], _, _ => Nat.le_refl _
  | x :: a, y :: b, hl, h => by
    have ih := unm_mono (a := a) (b := b) (by simpa using hl) (fun i hi => by have := h (i + 1) (by simpa [at_] using hi); simpa [at_] using this)
    have h0 := h 0
    unfold unm at ih ⊢
    rw [List.countP_cons, List.countP_cons]
    cases x <;> cases y <;> simp [at_] at h0 ⊢ <;> omega
  | [], _ :: _, hl, _ => by simp at hl
  | _ :: _, [], hl, _ => by simp at hl
/-- What a walk from a vertex has done, of which the first i neighbours are through. -/
structure Post (G : List (List Int)) (M : List Bool) (v i : Nat) (M' : List Bool) : Prop where
  len : M'.length = M.length
  mono : ∀ x, at_ M x = true → at_ M' x = true
  sound : ∀ x, at_ M' x = true → at_ M x = true ∨ Rch G v x
  nb : ∀ j u, j < i → (sc G v)[j]? = some u → at_ M' u = true
  closed : ∀ x, at_ M' x = true → at_ M x = false → ∀ w ∈ sc G x, at_ M' w = true
theorem Post.start (G : List (List Int)) (M : List Bool) (v : Nat) : Post G M v 0 M := ⟨rfl, fun _ h => h, fun _ h => .inl h, fun _ _ h => by omega, fun x h1 h2 => by rw [h1] at h2; cases h2⟩
theorem Post.skip {G : List (List Int)} {M M1 : List Bool} {v i u : Nat} (h : Post G M v i M1) (hu : (sc G v)[i]? = some u) (hm : at_ M1 u = true) : Post G M v (i + 1) M1 :=
  ⟨h.len, h.mono, h.sound, fun j w hj hw => by
    by_cases e : j = i
    · subst e; rw [hu] at hw; cases hw; exact hm
    · exact h.nb j w (by omega) hw, h.closed⟩
theorem Post.down {G : List (List Int)} {M M1 M2 : List Bool} {v i u : Nat} (h : Post G M v i M1) (hu : (sc G v)[i]? = some u) (hul : u < M1.length) (k : Post G (M1.set u true) u (sc G u).length M2) : Post G M v (i + 1) M2 := by
  have hset := fun x => at_set (M := M1) (u := u) (x := x) hul
  have hmem : u ∈ sc G v := List.mem_of_getElem? hu
  have hu2 : at_ M2 u = true := k.mono u (by rw [hset]; simp)
  have up : ∀ x, at_ M1 x = true → at_ M2 x = true := fun x hx => k.mono x (by rw [hset, hx, Bool.or_true])
  refine ⟨by rw [k.len, List.length_set]; exact h.len, fun x hx => up x (h.mono x hx), fun x hx => ?_, fun j w hj hw => ?_, fun x hx hn w hw => ?_⟩
  · rcases k.sound x hx with h1 | h1
    · rw [hset, Bool.or_eq_true, decide_eq_true_eq] at h1
      rcases h1 with rfl | h1
      · exact .inr (.one hmem)
      · exact h.sound x h1
    · exact .inr ((Rch.one hmem).trans h1)
  · by_cases e : j = i
    · subst e; rw [hu] at hw; cases hw; exact hu2
    · exact up w (h.nb j w (by omega) hw)
  · by_cases h1 : at_ M1 x = true
    · exact up w (h.closed x h1 hn w hw)
    · by_cases e : x = u
      · subst e
        obtain ⟨j, hj, rfl⟩ := List.getElem_of_mem hw
        exact k.nb j _ hj (List.getElem?_eq_getElem hj)
      · exact k.closed x hx (by rw [hset]; simp [e, h1]) w hw
/-- From nothing: just what is reached. -/
theorem Post.all {G : List (List Int)} {n v : Nat} {M : List Bool} (h : Post G (List.replicate n false) v (sc G v).length M) (x : Nat) : at_ M x = true ↔ Rch G v x := by
  have hz : ∀ x, at_ (List.replicate n false) x = false := fun x => by
    unfold at_
    rw [List.getD_eq_getElem?_getD, List.getElem?_replicate]
    split <;> rfl
  constructor
  · intro hx
    rcases h.sound x hx with h1 | h1
    · rw [hz] at h1; cases h1
    · exact h1
  · intro hr
    induction hr with
    | one e =>
      obtain ⟨j, hj, rfl⟩ := List.getElem_of_mem e
      exact h.nb j _ hj (List.getElem?_eq_getElem hj)
    | step _ e ih => exact h.closed _ ih (hz _) _ e
end Go.Proofs.Ytkemihfaohkoeaa.Am11
set_option linter.unusedVariables false
open Go Go.Proofs.Ytkemihfaohkoeaa.Am
namespace Go.Proofs.Ytkemihfaohkoeaa.Am11
theorem f39_F_0 {x0a : Option Addr} {x0n x0c : Nat} {x1 : Int} {H : AHeap} {prot : Nat} {x7 : Array Value} {H1 H2 : AHeap} {x10ap x10ao x10al x10bp x10bo x10bl x10cp x10co x10cl : Nat} {H3 : AHeap} {x13p x13o x13l : Nat} (h1 : [Value.slice x0a x0n x0c].all isCell = true) (h2 : abuild cfg.P 77 [] = some (Value.agg x7)) (h3 : x7.toList.all isCell = true) (h4 : [Value.pointer (some ⟨List.length (H ++ [vo [Value.slice x0a x0n x0c] 22]), 0, some x7.toList.length⟩)].length = 1) (h5 : setCells (H ++ [vo [Value.slice x0a x0n x0c] 22] ++ [AObj.cells x7.toList 77 x7.toList.length OMode.var] ++ [vo [Value.pointer none] 68]) (List.length H) (List.length (H ++ [vo [Value.slice x0a x0n x0c] 22] ++ [AObj.cells x7.toList 77 x7.toList.length OMode.var])) [Value.pointer none].length 0 [Value.pointer (some ⟨List.length (H ++ [vo [Value.slice x0a x0n x0c] 22]), 0, some x7.toList.length⟩)] = some H1) (h6 : [Value.func (Fn.func 47) { toList := [] } { toList := [Value.pointer (some ⟨List.length H, 0, some [Value.slice x0a x0n x0c].length⟩), Value.pointer (some ⟨List.length (H ++ [vo [Value.slice x0a x0n x0c] 22] ++ [AObj.cells x7.toList 77 x7.toList.length OMode.var]), 0, some [Value.pointer none].length⟩), Value.pointer (some ⟨List.length H1, 0, some [Value.nilFunc].length⟩)] }].length = 1) (h7 : setCells (H1 ++ [vo [Value.nilFunc] 78]) (List.length H) (List.length H1) [Value.nilFunc].length 0 [Value.func (Fn.func 47) { toList := [] } { toList := [Value.pointer (some ⟨List.length H, 0, some [Value.slice x0a x0n x0c].length⟩), Value.pointer (some ⟨List.length (H ++ [vo [Value.slice x0a x0n x0c] 22] ++ [AObj.cells x7.toList 77 x7.toList.length OMode.var]), 0, some [Value.pointer none].length⟩), Value.pointer (some ⟨List.length H1, 0, some [Value.nilFunc].length⟩)] }] = some H2) (h8 : getCells H2 (List.length H1) [Value.nilFunc].length 0 1 = some [Value.func (Fn.func 47) { toList := [] } { toList := [Value.pointer (some ⟨x10ap, x10ao, some x10al⟩), Value.pointer (some ⟨x10bp, x10bo, some x10bl⟩), Value.pointer (some ⟨x10cp, x10co, some x10cl⟩)] }]) (h9 : callInf cfg 47 [Value.int .i64 x1, Value.pointer (some ⟨x10ap, x10ao, some x10al⟩), Value.pointer (some ⟨x10bp, x10bo, some x10bl⟩), Value.pointer (some ⟨x10cp, x10co, some x10cl⟩)] (List.length H) H2 = some (Value.tuple { toList := [] }, H3)) (h10 : getCells H3 (List.length (H ++ [vo [Value.slice x0a x0n x0c] 22] ++ [AObj.cells x7.toList 77 x7.toList.length OMode.var])) [Value.pointer none].length 0 1 = some [Value.pointer (some ⟨x13p, x13o, some x13l⟩)]) : callInf cfg 39 [.slice x0a x0n x0c, .int .i64 x1] prot H = some (Value.pointer (some ⟨x13p, x13o, some x13l⟩), H3) :=
  fn_of2 a39 [.e, .v (.agg x7), .e, .e, .h H1, .e, .h H2, .v (.func (.func 47) #[] #[.pointer (some ⟨x10ap, x10ao, some x10al⟩), .pointer (some ⟨x10bp, x10bo, some x10bl⟩), .pointer (some ⟨x10cp, x10co, some x10cl⟩)]), .r (.tuple #[]) H3, .v (.pointer (some ⟨x13p, x13o, some x13l⟩))] (ai h1 (ai h2 (ai h3 (ai h4 (ai h5 (ai h6 (ai h7 (ai h8 (ai h9 (ai h10 (Eq.refl ((Value.pointer (some ⟨x13p, x13o, some x13l⟩), H3) : Value × AHeap)))))))))))) (by kernel_rfl) rfl
end Go.Proofs.Ytkemihfaohkoeaa.Am11
set_option linter.unusedVariables false
open Go Go.Proofs.Ytkemihfaohkoeaa.Am
namespace Go.Proofs.Ytkemihfaohkoeaa.Am11
theorem f47_F_0 {x0 : Int} {x1p x1o x1l x2p x2o x2l x3p x3o x3l : Nat} {H : AHeap} {prot : Nat} {x7a : Option Addr} {x7n x7c x9p x9o x9l : Nat} {x10a : Option Addr} {x10n x10c : Nat} {H1 : AHeap} (h1 : getCells H x1p x1l x1o 1 = some [Value.slice x7a x7n x7c]) (h2 : aindexAddr cfg.P 22 (Value.slice x7a x7n x7c) (Value.int .i64 x0) = some (Value.pointer (some ⟨x9p, x9o, some x9l⟩))) (h3 : getCells H x9p x9l x9o 1 = some [Value.slice x10a x10n x10c]) (h4 : lpInf (lpOf cfg a47 0 prot H) ([Value.pointer (some ⟨x2p, x2o, some x2l⟩), Value.pointer (some ⟨x3p, x3o, some x3l⟩), Value.slice x10a x10n x10c, Value.int .i64 (↑x10n : Int), Value.int .i64 0], H) = some (Ex.exit 0, [], H1)) : callInf cfg 47 [.int .i64 x0, .pointer (some ⟨x1p, x1o, some x1l⟩), .pointer (some ⟨x2p, x2o, some x2l⟩), .pointer (some ⟨x3p, x3o, some x3l⟩)] prot H = some (Value.tuple { toList := [] }, H1) :=
  fn_of2 a47 [.v (.slice x7a x7n x7c), .v (.pointer (some ⟨x9p, x9o, some x9l⟩)), .v (.slice x10a x10n x10c), .e, .lo (.exit 0, [], H1)] (ai h1 (ai h2 (ai h3 (ai h4 (Eq.refl ((Value.tuple { toList := [] }, H1) : Value × AHeap)))))) (by kernel_rfl) rfl
theorem f47_L0_0 {x2p x2o x2l x3p x3o x3l : Nat} {x10a : Option Addr} {x10n x10c : Nat} {x11 x12 : Int} {H0 : AHeap} {prot : Nat} {H : AHeap} {x14p x14o x14l : Nat} {x15 : Int} {x16p x16o x16l : Nat} {x20 : Bool} (h1 : x12 < x11) (h2 : aindexAddr cfg.P 34 (Value.slice x10a x10n x10c) (Value.int .i64 x12) = some (Value.pointer (some ⟨x14p, x14o, some x14l⟩))) (h3 : getCells H x14p x14l x14o 1 = some [Value.int .i64 x15]) (h4 : getCells H x2p x2l x2o 1 = some [Value.pointer (some ⟨x16p, x16o, some x16l⟩)]) (h5 : 0 ≤ x15) (h6 : x15 < (↑512 : Int)) (h7 : getCells H x16p x16l (x16o + x15.toNat * 1) 1 = some [Value.bool x20]) (h8 : (!x20) = false) (h9 : Fit .i64 (x12 + 1)) : lpOf cfg a47 0 prot H0 ([.pointer (some ⟨x2p, x2o, some x2l⟩), .pointer (some ⟨x3p, x3o, some x3l⟩), .slice x10a x10n x10c, .int .i64 x11, .int .i64 x12], H) = some (Sum.inl ([Value.pointer (some ⟨x2p, x2o, some x2l⟩), Value.pointer (some ⟨x3p, x3o, some x3l⟩), Value.slice x10a x10n x10c, Value.int .i64 x11, Value.int .i64 (x12 + 1)], H)) :=
  lp_of2 [.e, .b true, .v (.pointer (some ⟨x14p, x14o, some x14l⟩)), .v (.int .i64 x15), .v (.pointer (some ⟨x16p, x16o, some x16l⟩)), .e, .v (.bool x20), .e, .b false, .e] (ai (decide_eq_true h1) (ai h2 (ai h3 (ai h4 (ai h5 (ai h6 (ai h7 (ai h8 (ai h9 (Eq.refl (Sum.inl ([Value.pointer (some ⟨x2p, x2o, some x2l⟩), Value.pointer (some ⟨x3p, x3o, some x3l⟩), Value.slice x10a x10n x10c, Value.int .i64 x11, Value.int .i64 (x12 + 1)], H) : LS ⊕ LO))))))))))) (by kernel_rfl)
theorem f47_L0_1 {x2p x2o x2l x3p x3o x3l : Nat} {x10a : Option Addr} {x10n x10c : Nat} {x11 x12 : Int} {H0 : AHeap} {prot : Nat} {H : AHeap} {x14p x14o x14l : Nat} {x15 : Int} {x16p x16o x16l : Nat} {x20 : Bool} {x22p x22o x22l : Nat} {H2 : AHeap} {x26ap x26ao x26al x26bp x26bo x26bl x26cp x26co x26cl : Nat} {H3 : AHeap} (h1 : x12 < x11) (h2 : aindexAddr cfg.P 34 (Value.slice x10a x10n x10c) (Value.int .i64 x12) = some (Value.pointer (some ⟨x14p, x14o, some x14l⟩))) (h3 : getCells H x14p x14l x14o 1 = some [Value.int .i64 x15]) (h4 : getCells H x2p x2l x2o 1 = some [Value.pointer (some ⟨x16p, x16o, some x16l⟩)]) (h5 : 0 ≤ x15) (h6 : x15 < (↑512 : Int)) (h7 : getCells H x16p x16l (x16o + x15.toNat * 1) 1 = some [Value.bool x20]) (h8 : (!x20) = true) (h9 : getCells H x2p x2l x2o 1 = some [Value.pointer (some ⟨x22p, x22o, some x22l⟩)]) (h10 : [Value.bool true].length = 1) (h11 : setCells H prot x22p x22l (x22o + x15.toNat * 1) [Value.bool true] = some H2) (h12 : getCells H2 x3p x3l x3o 1 = some [Value.func (Fn.func 47) { toList := [] } { toList := [Value.pointer (some ⟨x26ap, x26ao, some x26al⟩), Value.pointer (some ⟨x26bp, x26bo, some x26bl⟩), Value.pointer (some ⟨x26cp, x26co, some x26cl⟩)] }]) (h13 : callInf cfg 47 [Value.int .i64 x15, Value.pointer (some ⟨x26ap, x26ao, some x26al⟩), Value.pointer (some ⟨x26bp, x26bo, some x26bl⟩), Value.pointer (some ⟨x26cp, x26co, some x26cl⟩)] prot H2 = some (Value.tuple { toList := [] }, H3)) (h14 : Fit .i64 (x12 + 1)) : lpOf cfg a47 0 prot H0 ([.pointer (some ⟨x2p, x2o, some x2l⟩), .pointer (some ⟨x3p, x3o, some x3l⟩), .slice x10a x10n x10c, .int .i64 x11, .int .i64 x12], H) = some (Sum.inl ([Value.pointer (some ⟨x2p, x2o, some x2l⟩), Value.pointer (some ⟨x3p, x3o, some x3l⟩), Value.slice x10a x10n x10c, Value.int .i64 x11, Value.int .i64 (x12 + 1)], H3)) :=
  lp_of2 [.e, .b true, .v (.pointer (some ⟨x14p, x14o, some x14l⟩)), .v (.int .i64 x15), .v (.pointer (some ⟨x16p, x16o, some x16l⟩)), .e, .v (.bool x20), .e, .b true, .v (.pointer (some ⟨x22p, x22o, some x22l⟩)), .e, .h H2, .v (.func (.func 47) #[] #[.pointer (some ⟨x26ap, x26ao, some x26al⟩), .pointer (some ⟨x26bp, x26bo, some x26bl⟩), .pointer (some ⟨x26cp, x26co, some x26cl⟩)]), .r (.tuple #[]) H3, .e] (ai (decide_eq_true h1) (ai h2 (ai h3 (ai h4 (ai h5 (ai h6 (ai h7 (ai h8 (ai h9 (ai h5 (ai h6 (ai h10 (ai h11 (ai h12 (ai h13 (ai h14 (Eq.refl (Sum.inl ([Value.pointer (some ⟨x2p, x2o, some x2l⟩), Value.pointer (some ⟨x3p, x3o, some x3l⟩), Value.slice x10a x10n x10c, Value.int .i64 x11, Value.int .i64 (x12 + 1)], H3) : LS ⊕ LO)))))))))))))))))) (by kernel_rfl)
theorem f47_L0_2 {x2p x2o x2l x3p x3o x3l : Nat} {x10a : Option Addr} {x10n x10c : Nat} {x11 x12 : Int} {H0 : AHeap} {prot : Nat} {H : AHeap} (h1 : ¬(x12 < x11)) : lpOf cfg a47 0 prot H0 ([.pointer (some ⟨x2p, x2o, some x2l⟩), .pointer (some ⟨x3p, x3o, some x3l⟩), .slice x10a x10n x10c, .int .i64 x11, .int .i64 x12], H) = some (Sum.inr (Ex.exit 0, [], H)) :=
  lp_of2 [.e, .b false] (ai (decide_eq_false h1) (Eq.refl (Sum.inr (Ex.exit 0, [], H) : LS ⊕ LO))) (by kernel_rfl)
end Go.Proofs.Ytkemihfaohkoeaa.Am11
namespace Go.Proofs.Ytkemihfaohkoeaa.Am11
open Go Go.Proofs.Ytkemihfaohkoeaa.Am
theorem bd77 : abuild cfg.P 77 [] = some (.agg ⟨List.replicate 512 (.bool false)⟩) := by kernel_rfl
def bll (l : List Bool) : List Value := l.map .bool
abbrev f47 (p1 p2 p3 : Nat) : Value := .func (.func 47) #[] #[.pointer (some ⟨p1, 0, some 1⟩), .pointer (some ⟨p2, 0, some 1⟩), .pointer (some ⟨p3, 0, some 1⟩)]
theorem sc_get {G : List (List Int)} (hG : Good G) {v : Nat} (hv : v < G.length) {i : Nat} (hi : i < G[v].length) : ∃ u : Nat, G[v][i] = (u : Int) ∧ u < G.length ∧ (sc G v)[i]? = some u := by
  have h := hG.2.2 v G[v] G[v][i] (List.getElem?_eq_getElem hv) (List.getElem_mem hi)
  refine ⟨G[v][i].toNat, by omega, by omega, ?_⟩
  unfold sc
  rw [List.getD_eq_getElem?_getD, List.getElem?_eq_getElem hv, Option.getD_some, List.getElem?_map, List.getElem?_eq_getElem hi]
  rfl
theorem sc_len {G : List (List Int)} {v : Nat} (hv : v < G.length) : (sc G v).length = G[v].length := by
  unfold sc
  rw [List.length_map, List.getD_eq_getElem?_getD, List.getElem?_eq_getElem hv]; rfl

structure W47 (G0 H : AHeap) (vG : Value) (p1 p2 p3 pm : Nat) (M : List Bool) : Prop where
  g1 : H[p1]? = some (.cells [vG] 22 1 .var)
  g2 : H[p2]? = some (.cells [.pointer (some ⟨pm, 0, some 512⟩)] 68 1 .var)
  g3 : H[p3]? = some (.cells [f47 p1 p2 p3] 78 1 .var)
  gm : H[pm]? = some (.cells (bll M) 77 512 .var)
  ml : M.length = 512
  st : Stay none G0 H
theorem one_get {H : AHeap} {p e : Nat} {v : Value} {md : OMode} (h : H[p]? = some (.cells [v] e 1 md)) : getCells H p 1 0 1 = some [v] := by
  unfold getCells
  rw [h]
  rfl
theorem at_get {M : List Bool} {u : Nat} (h : u < M.length) : (bll M)[u]? = some (.bool (at_ M u)) := by
  unfold bll at_
  rw [List.getElem?_map, List.getElem?_eq_getElem h, List.getD_eq_getElem?_getD, List.getElem?_eq_getElem h]; rfl

theorem loop47 {G : List (List Int)} (hG : Good G) {G0 : AHeap} {vG : Value} (hg : Gr G0 vG G) {p1 p2 p3 pm prot : Nat} (hpm : G0.length ≤ pm) (hd1 : p1 ≠ pm) (hd2 : p2 ≠ pm) (hd3 : p3 ≠ pm) (hp : prot ≤ pm) {v : Nat} (hv : v < G.length) {M : List Bool} (hM : M.length = 512)
    (ih : ∀ (M1 : List Bool) (u : Nat) (H : AHeap), unm M1 < unm M → u < G.length → W47 G0 H vG p1 p2 p3 pm M1 →
      ∃ M2 H', callInf cfg 47 [.int .i64 u, .pointer (some ⟨p1, 0, some 1⟩), .pointer (some ⟨p2, 0, some 1⟩), .pointer (some ⟨p3, 0, some 1⟩)] prot H = some (.tuple #[], H') ∧ W47 G0 H' vG p1 p2 p3 pm M2 ∧ Post G M1 u (sc G u).length M2 ∧ Stay (some pm) H H' ∧ H'.length = H.length)
    {H0 : AHeap} {r : Value} (hr : Rd G0 3 1 r G[v].length (il G[v])) : ∀ (d i : Nat) (M1 : List Bool) (H : AHeap), i + d = G[v].length → W47 G0 H vG p1 p2 p3 pm M1 → Post G M v i M1 →
    ∃ M2 H', lpInf (lpOf cfg a47 0 prot H0) ([.pointer (some ⟨p2, 0, some 1⟩), .pointer (some ⟨p3, 0, some 1⟩), r, .int .i64 G[v].length, .int .i64 i], H) = some (.exit 0, [], H') ∧ W47 G0 H' vG p1 p2 p3 pm M2 ∧ Post G M v (sc G v).length M2 ∧ Stay (some pm) H H' ∧ H'.length = H.length
  | 0, i, M1, H, hi, hw, hpo => by
    have he : i = (sc G v).length := by rw [sc_len hv]; omega
    subst he
    obtain ⟨_, _, hre⟩ := hr.len
    refine ⟨M1, H, ?_, hw, hpo, Stay.refl _ _, rfl⟩
    rw [hre]
    exact lp_last (f47_L0_2 (by omega))
  | d + 1, i, M1, H, hi, hw, hpo => by
    have hn := hG.1
    have hs := hG.2.1 _ (List.getElem_mem hv)
    have hil : i < G[v].length := by omega
    obtain ⟨u, e1, hu, hsc⟩ := sc_get hG hv hil
    have hrH := hr.stay hw.st
    obtain ⟨id, L, p, q⟩ := rd_at T34 hrH (il_get hil)
    rw [e1] at q
    have hu512 : u < M1.length := by rw [hw.ml]; omega
    have g2 := one_get hw.g2
    have gm := arr_get hw.gm (by simp [bll, hw.ml]) (at_get hu512)
    have fi : Fit .i64 ((i : Int) + 1) := fit64 (by omega) (by omega)
    obtain ⟨ar, cr, hre⟩ := hr.len
    by_cases hm : at_ M1 u = true
    · rw [hm] at gm
      obtain ⟨M2, H', z1, z2, z3, z4, z5⟩ := loop47 hG hg hpm hd1 hd2 hd3 hp hv hM ih hr (H0 := H0) d (i + 1) M1 H (by omega) hw (hpo.skip hsc hm)
      refine ⟨M2, H', ?_, z2, z3, z4, z5⟩
      rw [hre] at p z1 ⊢
      exact lp_next (f47_L0_0 (by omega) p q g2 (by omega) (by omega) gm rfl fi) z1
    · have hm : at_ M1 u = false := by simpa using hm
      rw [hm] at gm
      obtain ⟨H2, hH2⟩ : ∃ H2, H2 = H.set pm (.cells (bll (M1.set u true)) 77 512 .var) := ⟨_, rfl⟩
      have hset : setCells H prot pm 512 (0 + u * 1) [.bool true] = some H2 := by
        rw [hH2, show bll (M1.set u true) = (bll M1).set u (.bool true) by simp [bll, List.map_set]]
        exact arr_set hw.gm (by simp [bll, hw.ml]) hp (by omega) rfl
      have s2 : Stay (some pm) H H2 := by rw [hH2]; exact set_stay
      have hpml := (List.getElem?_eq_some_iff.1 hw.gm).1
      have hw2 : W47 G0 H2 vG p1 p2 p3 pm (M1.set u true) :=
        ⟨by rw [s2.2 _ (List.getElem?_eq_some_iff.1 hw.g1).1 (fun e => hd1 (Option.some.inj e).symm)]; exact hw.g1, by rw [s2.2 _ (List.getElem?_eq_some_iff.1 hw.g2).1 (fun e => hd2 (Option.some.inj e).symm)]; exact hw.g2,
         by rw [s2.2 _ (List.getElem?_eq_some_iff.1 hw.g3).1 (fun e => hd3 (Option.some.inj e).symm)]; exact hw.g3, by rw [hH2, List.getElem?_set_self hpml], by rw [List.length_set]; exact hw.ml, hw.st.over s2 (fun id e => by cases e; exact hpm)⟩
      have hlt : unm (M1.set u true) < unm M := by
        have h1 := unm_set M1 u hu512 hm
        have h2 := unm_mono hpo.len.symm hpo.mono
        omega
      obtain ⟨M2, H3, c1, c2, c3, c4, c5⟩ := ih (M1.set u true) u H2 hlt hu hw2
      obtain ⟨M3, H', z1, z2, z3, z4, z5⟩ := loop47 hG hg hpm hd1 hd2 hd3 hp hv hM ih hr (H0 := H0) d (i + 1) M2 H3 (by omega) c2 (hpo.down hsc hu512 c3)
      have l2 : H2.length = H.length := by rw [hH2]; simp
      refine ⟨M3, H', ?_, z2, z3, (s2.trans c4).trans z4, by omega⟩
      have g3 := one_get hw2.g3
      rw [hre] at p z1 ⊢
      exact lp_next (f47_L0_1 (by omega) p q g2 (by omega) (by omega) gm rfl g2 rfl hset g3 c1 fi) z1

theorem c47 {G : List (List Int)} (hG : Good G) {G0 : AHeap} {vG : Value} (hg : Gr G0 vG G) {p1 p2 p3 pm prot : Nat} (hpm : G0.length ≤ pm) (hd1 : p1 ≠ pm) (hd2 : p2 ≠ pm) (hd3 : p3 ≠ pm) (hp : prot ≤ pm) : ∀ (N : Nat) (M : List Bool) (v : Nat) (H : AHeap), unm M < N → v < G.length → W47 G0 H vG p1 p2 p3 pm M →
    ∃ M2 H', callInf cfg 47 [.int .i64 v, .pointer (some ⟨p1, 0, some 1⟩), .pointer (some ⟨p2, 0, some 1⟩), .pointer (some ⟨p3, 0, some 1⟩)] prot H = some (.tuple #[], H') ∧ W47 G0 H' vG p1 p2 p3 pm M2 ∧ Post G M v (sc G v).length M2 ∧ Stay (some pm) H H' ∧ H'.length = H.length
  | 0, M, v, H, hN, hv, hw => by omega
  | N + 1, M, v, H, hN, hv, hw => by
    have hgH := hg.stay hw.st
    obtain ⟨cs, r1, r2⟩ := hg
    obtain ⟨r, ra, rb⟩ := r2 v G[v] (List.getElem?_eq_getElem hv)
    obtain ⟨id, L, p, q⟩ := rd_at T22 (r1.stay hw.st) ra
    obtain ⟨M2, H', z1, z2, z3, z4, z5⟩ := loop47 hG ⟨cs, r1, r2⟩ hpm hd1 hd2 hd3 hp hv hw.ml (fun M1 u H1 h1 h2 h3 => c47 hG ⟨cs, r1, r2⟩ hpm hd1 hd2 hd3 hp N M1 u H1 (by omega) h2 h3) (H0 := H) rb G[v].length 0 M H (by omega) hw (Post.start G M v)
    refine ⟨M2, H', ?_, z2, z3, z4, z5⟩
    have g1 := one_get hw.g1
    obtain ⟨_, _, hre⟩ := rb.len
    obtain ⟨_, _, hge⟩ := hgH.len
    rw [hre] at q z1
    rw [hge] at g1 p
    exact f47_F_0 g1 p q z1

/-- What is reached by ways that are not empty, in an array of marks. -/
theorem c39 {G : List (List Int)} (hG : Good G) {vG : Value} (prot : Nat) {H : AHeap} (hg : Gr H vG G) {v : Nat} (hv : v < G.length) :
    ∃ pm M H', callInf cfg 39 [vG, .int .i64 v] prot H = some (.pointer (some ⟨pm, 0, some 512⟩), H') ∧ H'[pm]? = some (.cells (bll M) 77 512 .var) ∧ M.length = 512 ∧ (∀ x, at_ M x = true ↔ Rch G v x) ∧ Stay none H H' ∧ H.length ≤ pm := by
  obtain ⟨aG, cG, rfl⟩ := hg.len
  obtain ⟨HA, hHA⟩ : ∃ HA, HA = H ++ [vo [.slice aG G.length cG] 22] := ⟨_, rfl⟩
  obtain ⟨HB, hHB⟩ : ∃ HB, HB = HA ++ [AObj.cells (List.replicate 512 (Value.bool false)) 77 (List.replicate 512 (Value.bool false)).length .var] := ⟨_, rfl⟩
  obtain ⟨HC, hHC⟩ : ∃ HC, HC = HB ++ [vo [.pointer none] 68] := ⟨_, rfl⟩
  have lA : HA.length = H.length + 1 := by rw [hHA]; simp
  have lB : HB.length = H.length + 2 := by rw [hHB, List.length_append, List.length_singleton]; omega
  have lC : HC.length = H.length + 3 := by rw [hHC, List.length_append, List.length_singleton]; omega
  have sA : Stay none H HA := by rw [hHA]; exact Stay.app none H _
  have sB : Stay none HA HB := by rw [hHB]; exact Stay.app none HA _
  have sC : Stay none HB HC := by rw [hHC]; exact Stay.app none HB _
  have gA : HC[H.length]? = some (.cells [.slice aG G.length cG] 22 1 .var) := by
    rw [sC.2 _ (by omega) (by simp), sB.2 _ (by omega) (by simp), hHA]; exact append_get.1
  have gB : HC[HA.length]? = some (.cells (List.replicate 512 (Value.bool false)) 77 512 .var) := by
    rw [sC.2 _ (by omega) (by simp), hHB, append_get.1, List.length_replicate]
  have gC : HC[HB.length]? = some (.cells [.pointer none] 68 1 .var) := by rw [hHC]; exact append_get.1
  obtain ⟨H1, hH1⟩ : ∃ H1, H1 = HC.set HB.length (.cells [.pointer (some ⟨HA.length, 0, some 512⟩)] 68 1 .var) := ⟨_, rfl⟩
  have s1 : Stay (some HB.length) HC H1 := by rw [hH1]; exact set_stay
  have l1 : H1.length = H.length + 3 := by rw [hH1, List.length_set, lC]
  have e1 : setCells HC H.length HB.length 1 0 [.pointer (some ⟨HA.length, 0, some (List.replicate 512 (Value.bool false)).length⟩)] = some H1 := by
    rw [hH1, List.length_replicate]; exact arr_put gC rfl (by omega) rfl rfl
  obtain ⟨HD, hHD⟩ : ∃ HD, HD = H1 ++ [vo [.nilFunc] 78] := ⟨_, rfl⟩
  have sD : Stay none H1 HD := by rw [hHD]; exact Stay.app none H1 _
  have lD : HD.length = H.length + 4 := by rw [hHD, List.length_append, List.length_singleton]; omega
  have gD : HD[H1.length]? = some (.cells [.nilFunc] 78 1 .var) := by rw [hHD]; exact append_get.1
  obtain ⟨H2, hH2⟩ : ∃ H2, H2 = HD.set H1.length (.cells [f47 H.length HB.length H1.length] 78 1 .var) := ⟨_, rfl⟩
  have s2 : Stay (some H1.length) HD H2 := by rw [hH2]; exact set_stay
  have l2 : H2.length = H.length + 4 := by rw [hH2, List.length_set, lD]
  have e2 : setCells HD H.length H1.length 1 0 [f47 H.length HB.length H1.length] = some H2 := by
    rw [hH2]; exact arr_put gD rfl (by omega) rfl rfl
  have stAll : Stay none H H2 := ((((sA.trans sB).trans sC).over s1 (fun id e => by have := Option.some.inj e; omega)).trans sD).over s2 (fun id e => by have := Option.some.inj e; omega)
  have hcarry : ∀ q o, q < H.length + 3 → q ≠ HB.length → HC[q]? = some o → H2[q]? = some o := fun q o hq hne h => by
    rw [s2.2 q (by omega) (fun e => by have := Option.some.inj e; omega), sD.2 q (by omega) (by simp), s1.2 q (by omega) (fun e => hne (Option.some.inj e).symm)]; exact h
  obtain ⟨M0, hM0⟩ : ∃ M0, M0 = List.replicate 512 false := ⟨_, rfl⟩
  have hw : W47 H H2 (.slice aG G.length cG) H.length HB.length H1.length HA.length M0 := by
    refine ⟨hcarry _ _ (by omega) (by omega) gA, ?_, ?_, ?_, by rw [hM0]; exact List.length_replicate, stAll⟩
    · rw [s2.2 _ (by omega) (fun e => by have := Option.some.inj e; omega), sD.2 _ (by omega) (by simp), hH1, List.getElem?_set_self (by omega)]
    · rw [hH2, List.getElem?_set_self (by omega)]
    · have := hcarry _ _ (by omega) (by omega) gB
      rw [this, hM0]
      unfold bll
      rw [List.map_replicate]
  obtain ⟨M, H', z1, z2, z3, z4, z5⟩ := c47 hG hg (prot := H.length) (show H.length ≤ HA.length by omega) (by omega) (by omega) (by omega) (by omega) (unm M0 + 1) M0 v H2 (Nat.lt_succ_self _) hv hw
  rw [hM0] at z3
  refine ⟨HA.length, M, H', ?_, z2.gm, z2.ml, z3.all, z2.st, by omega⟩
  have g8 := one_get hw.g3
  have g10 := one_get z2.g2
  subst hHD; subst hHC; subst hHB; subst hHA
  exact f39_F_0 (x7 := ⟨List.replicate 512 (.bool false)⟩) rfl bd77 (by rw [List.all_eq_true]; intro x hx; rw [List.mem_replicate] at hx; rw [hx.2]; rfl) rfl e1 rfl (by rw [List.length_replicate] at *; exact e2) g8 z1 g10
end Go.Proofs.Ytkemihfaohkoeaa.Am11
set_option linter.unusedVariables false
open Go Go.Proofs.Ytkemihfaohkoeaa.Am
namespace Go.Proofs.Ytkemihfaohkoeaa.Am11
theorem f37_F_0 {x0a : Option Addr} {x0n x0c : Nat} {H : AHeap} {prot : Nat} {z3a : Option Addr} {z3n z3c : Nat} {H1 : AHeap} (rv : Value) (rH : AHeap) (h1 : lpInf (lpOf cfg a37 0 prot H) ([Value.slice x0a x0n x0c, Value.slice none 0 0, Value.int .i64 (↑x0n : Int), Value.int .i64 0], H) = some (Ex.exit 0, [Value.slice z3a z3n z3c], H1)) (h2 : pfin a37 H [Value.slice z3a z3n z3c] H1 = (rv, rH)) : callInf cfg 37 [.slice x0a x0n x0c] prot H = some (rv, rH) :=
  fn_of2 a37 [.e, .lo (.exit 0, [.slice z3a z3n z3c], H1)] (ai h1 h2) (by kernel_rfl) rfl
theorem f37_L0_0 {x0a : Option Addr} {x0n x0c : Nat} {x3a : Option Addr} {x3n x3c : Nat} {x6 x7 : Int} {H0 : AHeap} {prot : Nat} {H : AHeap} {x13p x13o x13l : Nat} {H2 : AHeap} {x15a : Option Addr} {x15n x15c : Nat} {H3 : AHeap} (h1 : x7 < x6) (h2 : callInf cfg 39 [Value.slice x0a x0n x0c, Value.int .i64 x7] (List.length H0) H = some (Value.pointer (some ⟨x13p, x13o, some x13l⟩), H2)) (h3 : aappend cfg.P (List.length H0) true 65 65 (Value.slice x3a x3n x3c) (Value.slice (some ⟨List.length H2, 0, some (1 * 1)⟩) 1 1) (H2 ++ [wo [Value.pointer (some ⟨x13p, x13o, some x13l⟩)] 68]) = some (Value.slice x15a x15n x15c, H3)) (h4 : Fit .i64 (x7 + 1)) : lpOf cfg a37 0 prot H0 ([.slice x0a x0n x0c, .slice x3a x3n x3c, .int .i64 x6, .int .i64 x7], H) = some (Sum.inl ([Value.slice x0a x0n x0c, Value.slice x15a x15n x15c, Value.int .i64 x6, Value.int .i64 (x7 + 1)], H3)) :=
  lp_of2 [.e, .b true, .r (.pointer (some ⟨x13p, x13o, some x13l⟩)) H2, .e, .r (.slice x15a x15n x15c) H3, .e] (ai (decide_eq_true h1) (ai h2 (ai h3 (ai h4 (Eq.refl (Sum.inl ([Value.slice x0a x0n x0c, Value.slice x15a x15n x15c, Value.int .i64 x6, Value.int .i64 (x7 + 1)], H3) : LS ⊕ LO)))))) (by kernel_rfl)
theorem f37_L0_1 {x0a : Option Addr} {x0n x0c : Nat} {x3a : Option Addr} {x3n x3c : Nat} {x6 x7 : Int} {H0 : AHeap} {prot : Nat} {H : AHeap} (h1 : ¬(x7 < x6)) : lpOf cfg a37 0 prot H0 ([.slice x0a x0n x0c, .slice x3a x3n x3c, .int .i64 x6, .int .i64 x7], H) = some (Sum.inr (Ex.exit 0, [Value.slice x3a x3n x3c], H)) :=
  lp_of2 [.e, .b false] (ai (decide_eq_false h1) (Eq.refl (Sum.inr (Ex.exit 0, [Value.slice x3a x3n x3c], H) : LS ⊕ LO))) (by kernel_rfl)
end Go.Proofs.Ytkemihfaohkoeaa.Am11
set_option linter.unusedVariables false
open Go Go.Proofs.Ytkemihfaohkoeaa.Am
namespace Go.Proofs.Ytkemihfaohkoeaa.Am11
theorem f36_F_0 {x0a : Option Addr} {x0n x0c : Nat} {x1a : Option Addr} {x1n x1c : Nat} {H : AHeap} {prot : Nat} {z6a : Option Addr} {z6n z6c : Nat} {z7 : Int} {H1 : AHeap} (rv : Value) (rH : AHeap) (h1 : 0 ≤ (↑x0n : Int)) (h2 : (↑x0n : Int) = (↑x0n : Int)) (h3 : (↑x0n : Int) ≤ 9223372036854775807) (h4 : (↑8 : Int) * (↑x0n : Int) ≤ 2 ^ 48) (h5 : lpInf (lpOf cfg a36 0 prot H) ([Value.slice x1a x1n x1c, Value.slice (some ⟨List.length H, 0, some ((↑x0n : Int).toNat * 1)⟩) (↑x0n : Int).toNat (↑x0n : Int).toNat, Value.int .i64 0, Value.int .i64 (↑x0n : Int), Value.int .i64 0], H ++ [AObj.cells (repCells [Value.int .i64 0] (↑x0n : Int).toNat) 3 (repCells [Value.int .i64 0] (↑x0n : Int).toNat).length OMode.row]) = some (Ex.exit 0, [Value.slice z6a z6n z6c, Value.int .i64 z7], H1)) (h6 : pfin a36 H [Value.slice z6a z6n z6c, Value.int .i64 z7] H1 = (rv, rH)) : callInf cfg 36 [.slice x0a x0n x0c, .slice x1a x1n x1c] prot H = some (rv, rH) :=
  fn_of2 a36 [.e, .e, .e, .lo (.exit 0, [.slice z6a z6n z6c, .int .i64 z7], H1)] (ai h1 (ai h2 (ai h3 (ai h4 (ai h5 h6))))) (by kernel_rfl) rfl
theorem f36_L0_0 {x1a : Option Addr} {x1n x1c : Nat} {x6a : Option Addr} {x6n x6c : Nat} {x7 x14 x15 : Int} {H0 : AHeap} {prot : Nat} {H : AHeap} {x20p x20o x20l : Nat} {H2 : AHeap} {z1a : Option Addr} {z1n z1c : Nat} {z6a : Option Addr} {z6n z6c : Nat} {z7 z8 z14 z15 : Int} {H3 : AHeap} {x53p x53o x53l : Nat} {x54 : Int} {x59p x59o x59l : Nat} {H4 : AHeap} (h1 : x15 < x14) (h2 : aindexAddr cfg.P 34 (Value.slice x6a x6n x6c) (Value.int .i64 x15) = some (Value.pointer (some ⟨x20p, x20o, some x20l⟩))) (h3 : [Value.int .i64 (-1)].length = 1) (h4 : setCells H (List.length H0) x20p x20l x20o [Value.int .i64 (-1)] = some H2) (h5 : lpInf (lpOf cfg a36 1 prot H0) ([Value.slice x1a x1n x1c, Value.slice x6a x6n x6c, Value.int .i64 x7, Value.int .i64 x15, Value.int .i64 x14, Value.int .i64 x15, Value.int .i64 x15, Value.int .i64 0], H2) = some (Ex.exit 2, [Value.slice z1a z1n z1c, Value.slice z6a z6n z6c, Value.int .i64 z7, Value.int .i64 z8, Value.int .i64 z14, Value.int .i64 z15], H3)) (h6 : aindexAddr cfg.P 34 (Value.slice z6a z6n z6c) (Value.int .i64 z8) = some (Value.pointer (some ⟨x53p, x53o, some x53l⟩))) (h7 : getCells H3 x53p x53l x53o 1 = some [Value.int .i64 x54]) (h8 : x54 < 0) (h9 : aindexAddr cfg.P 34 (Value.slice z6a z6n z6c) (Value.int .i64 z8) = some (Value.pointer (some ⟨x59p, x59o, some x59l⟩))) (h10 : [Value.int .i64 z7].length = 1) (h11 : setCells H3 (List.length H0) x59p x59l x59o [Value.int .i64 z7] = some H4) (h12 : Fit .i64 (z7 + 1)) (h13 : Fit .i64 (z15 + 1)) : lpOf cfg a36 0 prot H0 ([.slice x1a x1n x1c, .slice x6a x6n x6c, .int .i64 x7, .int .i64 x14, .int .i64 x15], H) = some (Sum.inl ([Value.slice z1a z1n z1c, Value.slice z6a z6n z6c, Value.int .i64 (z7 + 1), Value.int .i64 z14, Value.int .i64 (z15 + 1)], H4)) :=
  lp_of2 [.e, .b true, .v (.pointer (some ⟨x20p, x20o, some x20l⟩)), .h H2, .lo (.exit 2, [.slice z1a z1n z1c, .slice z6a z6n z6c, .int .i64 z7, .int .i64 z8, .int .i64 z14, .int .i64 z15], H3), .v (.pointer (some ⟨x53p, x53o, some x53l⟩)), .v (.int .i64 x54), .e, .b true, .v (.pointer (some ⟨x59p, x59o, some x59l⟩)), .h H4, .e, .e] (ai (decide_eq_true h1) (ai h2 (ai h3 (ai h4 (ai h5 (ai h6 (ai h7 (ai (decide_eq_true h8) (ai h9 (ai h10 (ai h11 (ai h12 (ai h13 (Eq.refl (Sum.inl ([Value.slice z1a z1n z1c, Value.slice z6a z6n z6c, Value.int .i64 (z7 + 1), Value.int .i64 z14, Value.int .i64 (z15 + 1)], H4) : LS ⊕ LO))))))))))))))) (by kernel_rfl)
theorem f36_L0_1 {x1a : Option Addr} {x1n x1c : Nat} {x6a : Option Addr} {x6n x6c : Nat} {x7 x14 x15 : Int} {H0 : AHeap} {prot : Nat} {H : AHeap} {x20p x20o x20l : Nat} {H2 : AHeap} {z1a : Option Addr} {z1n z1c : Nat} {z6a : Option Addr} {z6n z6c : Nat} {z7 z8 z14 z15 : Int} {H3 : AHeap} {x53p x53o x53l : Nat} {x54 : Int} (h1 : x15 < x14) (h2 : aindexAddr cfg.P 34 (Value.slice x6a x6n x6c) (Value.int .i64 x15) = some (Value.pointer (some ⟨x20p, x20o, some x20l⟩))) (h3 : [Value.int .i64 (-1)].length = 1) (h4 : setCells H (List.length H0) x20p x20l x20o [Value.int .i64 (-1)] = some H2) (h5 : lpInf (lpOf cfg a36 1 prot H0) ([Value.slice x1a x1n x1c, Value.slice x6a x6n x6c, Value.int .i64 x7, Value.int .i64 x15, Value.int .i64 x14, Value.int .i64 x15, Value.int .i64 x15, Value.int .i64 0], H2) = some (Ex.exit 2, [Value.slice z1a z1n z1c, Value.slice z6a z6n z6c, Value.int .i64 z7, Value.int .i64 z8, Value.int .i64 z14, Value.int .i64 z15], H3)) (h6 : aindexAddr cfg.P 34 (Value.slice z6a z6n z6c) (Value.int .i64 z8) = some (Value.pointer (some ⟨x53p, x53o, some x53l⟩))) (h7 : getCells H3 x53p x53l x53o 1 = some [Value.int .i64 x54]) (h8 : ¬(x54 < 0)) (h9 : Fit .i64 (z15 + 1)) : lpOf cfg a36 0 prot H0 ([.slice x1a x1n x1c, .slice x6a x6n x6c, .int .i64 x7, .int .i64 x14, .int .i64 x15], H) = some (Sum.inl ([Value.slice z1a z1n z1c, Value.slice z6a z6n z6c, Value.int .i64 z7, Value.int .i64 z14, Value.int .i64 (z15 + 1)], H3)) :=
  lp_of2 [.e, .b true, .v (.pointer (some ⟨x20p, x20o, some x20l⟩)), .h H2, .lo (.exit 2, [.slice z1a z1n z1c, .slice z6a z6n z6c, .int .i64 z7, .int .i64 z8, .int .i64 z14, .int .i64 z15], H3), .v (.pointer (some ⟨x53p, x53o, some x53l⟩)), .v (.int .i64 x54), .e, .b false, .e] (ai (decide_eq_true h1) (ai h2 (ai h3 (ai h4 (ai h5 (ai h6 (ai h7 (ai (decide_eq_false h8) (ai h9 (Eq.refl (Sum.inl ([Value.slice z1a z1n z1c, Value.slice z6a z6n z6c, Value.int .i64 z7, Value.int .i64 z14, Value.int .i64 (z15 + 1)], H3) : LS ⊕ LO))))))))))) (by kernel_rfl)
theorem f36_L0_2 {x1a : Option Addr} {x1n x1c : Nat} {x6a : Option Addr} {x6n x6c : Nat} {x7 x14 x15 : Int} {H0 : AHeap} {prot : Nat} {H : AHeap} (h1 : ¬(x15 < x14)) : lpOf cfg a36 0 prot H0 ([.slice x1a x1n x1c, .slice x6a x6n x6c, .int .i64 x7, .int .i64 x14, .int .i64 x15], H) = some (Sum.inr (Ex.exit 0, [Value.slice x6a x6n x6c, Value.int .i64 x7], H)) :=
  lp_of2 [.e, .b false] (ai (decide_eq_false h1) (Eq.refl (Sum.inr (Ex.exit 0, [Value.slice x6a x6n x6c, Value.int .i64 x7], H) : LS ⊕ LO))) (by kernel_rfl)
theorem f36_L1_0 {x1a : Option Addr} {x1n x1c : Nat} {x6a : Option Addr} {x6n x6c : Nat} {x7 x8 x14 x15 x21 x22 : Int} {H0 : AHeap} {prot : Nat} {H : AHeap} {x27p x27o x27l x28p x28o x28l : Nat} {x32 : Bool} {x36p x36o x36l x37p x37o x37l : Nat} {x41 : Bool} {x47p x47o x47l : Nat} {x48 : Int} {x49p x49o x49l : Nat} {H2 : AHeap} (h1 : x22 < x21) (h2 : aindexAddr cfg.P 65 (Value.slice x1a x1n x1c) (Value.int .i64 x8) = some (Value.pointer (some ⟨x27p, x27o, some x27l⟩))) (h3 : getCells H x27p x27l x27o 1 = some [Value.pointer (some ⟨x28p, x28o, some x28l⟩)]) (h4 : 0 ≤ x22) (h5 : x22 < (↑512 : Int)) (h6 : getCells H x28p x28l (x28o + x22.toNat * 1) 1 = some [Value.bool x32]) (h7 : x32 = true) (h8 : aindexAddr cfg.P 65 (Value.slice x1a x1n x1c) (Value.int .i64 x22) = some (Value.pointer (some ⟨x36p, x36o, some x36l⟩))) (h9 : getCells H x36p x36l x36o 1 = some [Value.pointer (some ⟨x37p, x37o, some x37l⟩)]) (h10 : 0 ≤ x8) (h11 : x8 < (↑512 : Int)) (h12 : getCells H x37p x37l (x37o + x8.toNat * 1) 1 = some [Value.bool x41]) (h13 : x41 = true) (h14 : aindexAddr cfg.P 34 (Value.slice x6a x6n x6c) (Value.int .i64 x22) = some (Value.pointer (some ⟨x47p, x47o, some x47l⟩))) (h15 : getCells H x47p x47l x47o 1 = some [Value.int .i64 x48]) (h16 : aindexAddr cfg.P 34 (Value.slice x6a x6n x6c) (Value.int .i64 x8) = some (Value.pointer (some ⟨x49p, x49o, some x49l⟩))) (h17 : [Value.int .i64 x48].length = 1) (h18 : setCells H (List.length H0) x49p x49l x49o [Value.int .i64 x48] = some H2) : lpOf cfg a36 1 prot H0 ([.slice x1a x1n x1c, .slice x6a x6n x6c, .int .i64 x7, .int .i64 x8, .int .i64 x14, .int .i64 x15, .int .i64 x21, .int .i64 x22], H) = some (Sum.inr (Ex.exit 2, [Value.slice x1a x1n x1c, Value.slice x6a x6n x6c, Value.int .i64 x7, Value.int .i64 x8, Value.int .i64 x14, Value.int .i64 x15], H2)) :=
  lp_of2 [.e, .b true, .v (.pointer (some ⟨x27p, x27o, some x27l⟩)), .v (.pointer (some ⟨x28p, x28o, some x28l⟩)), .e, .v (.bool x32), .b true, .b true, .b true, .v (.pointer (some ⟨x36p, x36o, some x36l⟩)), .b true, .v (.pointer (some ⟨x37p, x37o, some x37l⟩)), .b true, .b true, .b true, .e, .b true, .v (.bool x41), .b true, .b true, .v (.pointer (some ⟨x47p, x47o, some x47l⟩)), .v (.int .i64 x48), .v (.pointer (some ⟨x49p, x49o, some x49l⟩)), .h H2] (ai (decide_eq_true h1) (ai h2 (ai h3 (ai h4 (ai h5 (ai h6 (ai h7 (ai h7 (ai h7 (ai h8 (ai h7 (ai h9 (ai h7 (ai h7 (ai h7 (ai h10 (ai h11 (ai h7 (ai h12 (ai h7 (ai h13 (ai h14 (ai h15 (ai h16 (ai h17 (ai h18 (Eq.refl (Sum.inr (Ex.exit 2, [Value.slice x1a x1n x1c, Value.slice x6a x6n x6c, Value.int .i64 x7, Value.int .i64 x8, Value.int .i64 x14, Value.int .i64 x15], H2) : LS ⊕ LO)))))))))))))))))))))))))))) (by kernel_rfl)
theorem f36_L1_1 {x1a : Option Addr} {x1n x1c : Nat} {x6a : Option Addr} {x6n x6c : Nat} {x7 x8 x14 x15 x21 x22 : Int} {H0 : AHeap} {prot : Nat} {H : AHeap} {x27p x27o x27l x28p x28o x28l : Nat} {x32 : Bool} {x36p x36o x36l x37p x37o x37l : Nat} {x41 : Bool} (h1 : x22 < x21) (h2 : aindexAddr cfg.P 65 (Value.slice x1a x1n x1c) (Value.int .i64 x8) = some (Value.pointer (some ⟨x27p, x27o, some x27l⟩))) (h3 : getCells H x27p x27l x27o 1 = some [Value.pointer (some ⟨x28p, x28o, some x28l⟩)]) (h4 : 0 ≤ x22) (h5 : x22 < (↑512 : Int)) (h6 : getCells H x28p x28l (x28o + x22.toNat * 1) 1 = some [Value.bool x32]) (h7 : x32 = true) (h8 : aindexAddr cfg.P 65 (Value.slice x1a x1n x1c) (Value.int .i64 x22) = some (Value.pointer (some ⟨x36p, x36o, some x36l⟩))) (h9 : getCells H x36p x36l x36o 1 = some [Value.pointer (some ⟨x37p, x37o, some x37l⟩)]) (h10 : 0 ≤ x8) (h11 : x8 < (↑512 : Int)) (h12 : getCells H x37p x37l (x37o + x8.toNat * 1) 1 = some [Value.bool x41]) (h13 : x41 = false) (h14 : Fit .i64 (x22 + 1)) : lpOf cfg a36 1 prot H0 ([.slice x1a x1n x1c, .slice x6a x6n x6c, .int .i64 x7, .int .i64 x8, .int .i64 x14, .int .i64 x15, .int .i64 x21, .int .i64 x22], H) = some (Sum.inl ([Value.slice x1a x1n x1c, Value.slice x6a x6n x6c, Value.int .i64 x7, Value.int .i64 x8, Value.int .i64 x14, Value.int .i64 x15, Value.int .i64 x21, Value.int .i64 (x22 + 1)], H)) :=
  lp_of2 [.e, .b true, .v (.pointer (some ⟨x27p, x27o, some x27l⟩)), .v (.pointer (some ⟨x28p, x28o, some x28l⟩)), .e, .v (.bool x32), .b true, .b true, .b true, .v (.pointer (some ⟨x36p, x36o, some x36l⟩)), .b true, .v (.pointer (some ⟨x37p, x37o, some x37l⟩)), .b true, .b true, .b true, .e, .b true, .v (.bool x41), .b true, .b false, .e] (ai (decide_eq_true h1) (ai h2 (ai h3 (ai h4 (ai h5 (ai h6 (ai h7 (ai h7 (ai h7 (ai h8 (ai h7 (ai h9 (ai h7 (ai h7 (ai h7 (ai h10 (ai h11 (ai h7 (ai h12 (ai h7 (ai h13 (ai h14 (Eq.refl (Sum.inl ([Value.slice x1a x1n x1c, Value.slice x6a x6n x6c, Value.int .i64 x7, Value.int .i64 x8, Value.int .i64 x14, Value.int .i64 x15, Value.int .i64 x21, Value.int .i64 (x22 + 1)], H) : LS ⊕ LO)))))))))))))))))))))))) (by kernel_rfl)
theorem f36_L1_2 {x1a : Option Addr} {x1n x1c : Nat} {x6a : Option Addr} {x6n x6c : Nat} {x7 x8 x14 x15 x21 x22 : Int} {H0 : AHeap} {prot : Nat} {H : AHeap} {x27p x27o x27l x28p x28o x28l : Nat} {x32 : Bool} (h1 : x22 < x21) (h2 : aindexAddr cfg.P 65 (Value.slice x1a x1n x1c) (Value.int .i64 x8) = some (Value.pointer (some ⟨x27p, x27o, some x27l⟩))) (h3 : getCells H x27p x27l x27o 1 = some [Value.pointer (some ⟨x28p, x28o, some x28l⟩)]) (h4 : 0 ≤ x22) (h5 : x22 < (↑512 : Int)) (h6 : getCells H x28p x28l (x28o + x22.toNat * 1) 1 = some [Value.bool x32]) (h7 : x32 = false) (h8 : Fit .i64 (x22 + 1)) : lpOf cfg a36 1 prot H0 ([.slice x1a x1n x1c, .slice x6a x6n x6c, .int .i64 x7, .int .i64 x8, .int .i64 x14, .int .i64 x15, .int .i64 x21, .int .i64 x22], H) = some (Sum.inl ([Value.slice x1a x1n x1c, Value.slice x6a x6n x6c, Value.int .i64 x7, Value.int .i64 x8, Value.int .i64 x14, Value.int .i64 x15, Value.int .i64 x21, Value.int .i64 (x22 + 1)], H)) :=
  lp_of2 [.e, .b true, .v (.pointer (some ⟨x27p, x27o, some x27l⟩)), .v (.pointer (some ⟨x28p, x28o, some x28l⟩)), .e, .v (.bool x32), .b false, .b false, .b false, .b false, .b false, .b false, .b false, .b false, .b false, .b false, .e] (ai (decide_eq_true h1) (ai h2 (ai h3 (ai h4 (ai h5 (ai h6 (ai h7 (ai h7 (ai h7 (ai h7 (ai h7 (ai h7 (ai h7 (ai h7 (ai h7 (ai (Eq.refl false) (ai h8 (Eq.refl (Sum.inl ([Value.slice x1a x1n x1c, Value.slice x6a x6n x6c, Value.int .i64 x7, Value.int .i64 x8, Value.int .i64 x14, Value.int .i64 x15, Value.int .i64 x21, Value.int .i64 (x22 + 1)], H) : LS ⊕ LO))))))))))))))))))) (by kernel_rfl)
theorem f36_L1_3 {x1a : Option Addr} {x1n x1c : Nat} {x6a : Option Addr} {x6n x6c : Nat} {x7 x8 x14 x15 x21 x22 : Int} {H0 : AHeap} {prot : Nat} {H : AHeap} (h1 : ¬(x22 < x21)) : lpOf cfg a36 1 prot H0 ([.slice x1a x1n x1c, .slice x6a x6n x6c, .int .i64 x7, .int .i64 x8, .int .i64 x14, .int .i64 x15, .int .i64 x21, .int .i64 x22], H) = some (Sum.inr (Ex.exit 2, [Value.slice x1a x1n x1c, Value.slice x6a x6n x6c, Value.int .i64 x7, Value.int .i64 x8, Value.int .i64 x14, Value.int .i64 x15], H)) :=
  lp_of2 [.e, .b false] (ai (decide_eq_false h1) (Eq.refl (Sum.inr (Ex.exit 2, [Value.slice x1a x1n x1c, Value.slice x6a x6n x6c, Value.int .i64 x7, Value.int .i64 x8, Value.int .i64 x14, Value.int .i64 x15], H) : LS ⊕ LO))) (by kernel_rfl)
end Go.Proofs.Ytkemihfaohkoeaa.Am11
set_option linter.unusedVariables false
open Go Go.Proofs.Ytkemihfaohkoeaa.Am
namespace Go.Proofs.Ytkemihfaohkoeaa.Am11
theorem f18_F_0 {x0a : Option Addr} {x0n x0c : Nat} {H : AHeap} {prot : Nat} {x9 : Int} (h1 : callInf cfg 25 [Value.slice x0a x0n x0c] (List.length H) H = some (Value.int .i64 x9, H)) (h2 : (x9 != 0) = true) : callInf cfg 18 [.slice x0a x0n x0c] prot H = some (Value.tuple { toList := [Value.slice none 0 0, Value.int .i64 0, Value.int .i64 x9] }, H) :=
  fn_of2 a18 [.v (.int .i64 x9), .e, .b true] (ai h1 (ai h2 (Eq.refl ((Value.tuple { toList := [Value.slice none 0 0, Value.int .i64 0, Value.int .i64 x9] }, H) : Value × AHeap)))) (by kernel_rfl) rfl
theorem f18_F_1 {x0a : Option Addr} {x0n x0c : Nat} {H : AHeap} {prot : Nat} {x9 : Int} {x16a : Option Addr} {x16n x16c : Nat} {H1 : AHeap} {x17aa : Option Addr} {x17an x17ac : Nat} {x17b : Int} {H2 : AHeap} (rv : Value) (rH : AHeap) (h1 : callInf cfg 25 [Value.slice x0a x0n x0c] (List.length H) H = some (Value.int .i64 x9, H)) (h2 : (x9 != 0) = false) (h3 : callInf cfg 37 [Value.slice x0a x0n x0c] (List.length H) H = some (Value.slice x16a x16n x16c, H1)) (h4 : callInf cfg 36 [Value.slice x0a x0n x0c, Value.slice x16a x16n x16c] (List.length H) H1 = some (Value.tuple { toList := [Value.slice x17aa x17an x17ac, Value.int .i64 x17b] }, H2)) (h5 : pfin a18 H [Value.slice x17aa x17an x17ac, Value.int .i64 x17b, Value.int .i64 0] H2 = (rv, rH)) : callInf cfg 18 [.slice x0a x0n x0c] prot H = some (rv, rH) :=
  fn_of2 a18 [.v (.int .i64 x9), .e, .b false, .r (.slice x16a x16n x16c) H1, .r (.tuple #[.slice x17aa x17an x17ac, .int .i64 x17b]) H2] (ai h1 (ai h2 (ai h3 (ai h4 h5)))) (by kernel_rfl) rfl
end Go.Proofs.Ytkemihfaohkoeaa.Am11
namespace Go.Proofs.Ytkemihfaohkoeaa.Am11
open Go Go.Proofs.Ytkemihfaohkoeaa.Am
theorem T65 : ElemT cfg.P 65 68 1 8 := ⟨by kernel_rfl, by kernel_rfl, by kernel_rfl, ⟨.pointer none, by kernel_rfl, rfl⟩, by kernel_rfl, by omega, by omega⟩
def ptl (ps : List Nat) : List Value := ps.map fun (p : Nat) => .pointer (some ⟨p, 0, some 512⟩)
/-- The marks of the first vertices. -/
structure Mk (G : List (List Int)) (H : AHeap) (v p : Nat) : Prop where
  ex : ∃ M, H[p]? = some (.cells (bll M) 77 512 .var) ∧ M.length = 512 ∧ ∀ u, at_ M u = true ↔ Rch G v u
theorem Mk.stay {G : List (List Int)} {H H' : AHeap} {v p : Nat} (h : Mk G H v p) {o : Option Nat} (s : Stay o H H') (hne : o ≠ some p) : Mk G H' v p := by
  obtain ⟨M, h1, h2, h3⟩ := h.ex
  exact ⟨M, by rw [s.2 p (List.getElem?_eq_some_iff.1 h1).1 hne]; exact h1, h2, h3⟩
theorem Mk.lt {G : List (List Int)} {H : AHeap} {v p : Nat} (h : Mk G H v p) : p < H.length := by
  obtain ⟨M, h1, _⟩ := h.ex
  exact (List.getElem?_eq_some_iff.1 h1).1
theorem gc_not {H H1 : AHeap} {e s n id : Nat} {x : Value} {cs : List Value} (h : Own H1 e s x (some id) n cs) (hp : cs.all plain0 = false) : gc H [x] H1 = (x, H1) := by
  obtain ⟨hl, hn, rfl, wr, hwr, hH⟩ := h
  unfold gc
  have hnd : noDup (sliceIds [.slice (some ⟨id, 0, some cs.length⟩) n n]) = true := rfl
  rw [if_pos hnd]
  have : keepAll H.length H1 [.slice (some ⟨id, 0, some cs.length⟩) n n] [] = none := by
    simp only [keepAll, keep1]
    split
    · rfl
    · rw [hH]
      simp [hp]
  rw [this]
  rfl

theorem loop37 {G : List (List Int)} (hG : Good G) {H0 : AHeap} {vG : Value} (hg : Gr H0 vG G) {prot : Nat} : ∀ (d i : Nat) (x : Value) (o : Option Nat) (ps : List Nat) (H : AHeap), i + d = G.length → Stay none H0 H → Own H 68 1 x o i (ptl ps) → ps.length = i → (∀ id, o = some id → H0.length ≤ id) → (∀ (j p : Nat), ps[j]? = some p → Mk G H j p ∧ o ≠ some p ∧ H0.length ≤ p) →
    ∃ x' o' ps' H', lpInf (lpOf cfg a37 0 prot H0) ([vG, x, .int .i64 G.length, .int .i64 i], H) = some (.exit 0, [x'], H') ∧ Stay none H0 H' ∧ Own H' 68 1 x' o' G.length (ptl ps') ∧ ps'.length = G.length ∧ (∀ id, o' = some id → H0.length ≤ id) ∧ (∀ (j p : Nat), ps'[j]? = some p → Mk G H' j p ∧ o' ≠ some p ∧ H0.length ≤ p)
  | 0, i, x, o, ps, H, hi, hst, hx, hl, ho, hm => by
    have he : i = G.length := by omega
    subst he
    obtain ⟨_, _, hge⟩ := hg.len
    have hx0 := hx
    obtain ⟨_, _, rfl⟩ := hx.len
    subst hge
    exact ⟨_, o, ps, H, lp_last (f37_L0_1 (by omega)), hst, hx0, hl, ho, hm⟩
  | d + 1, i, x, o, ps, H, hi, hst, hx, hl, ho, hm => by
    have hn := hG.1
    obtain ⟨pm, M, H2, c1, c2, c3, c4, c5, c6⟩ := c39 hG H0.length (hg.stay hst) (show i < G.length by omega)
    have hx2 := hx.stay c5 (fun _ _ h => by cases h)
    have l2 := c5.1
    have hpm := (List.getElem?_eq_some_iff.1 c2).1
    have h0 := hst.1
    obtain ⟨a', c', o', H3, q1, q2, q3, q4, q5, q6⟩ := own_app T65 hx2 (ecs := [.pointer (some ⟨pm, 0, some 512⟩)]) rfl rfl (prot := H0.length) (room := true) ho (by omega) (by omega) (L := 1 * 1) rfl (el := [Value.pointer (some ⟨pm, 0, some 512⟩)].length) rfl
    have hol : ∀ id, o = some id → id < H.length := fun id h => by
      rw [h] at hx
      exact (List.getElem?_eq_some_iff.1 hx.2.2.2.choose_spec.2).1
    have hne : o ≠ some pm := fun h => by have := hol pm h; omega
    have ho'pm : o' ≠ pm := by
      cases hh : o with
      | none => have := q5 hh; omega
      | some j => have := q6 j hh; have := hol j hh; omega
    have e1 : ptl ps ++ [.pointer (some ⟨pm, 0, some 512⟩)] = ptl (ps ++ [pm]) := by simp [ptl]
    rw [e1] at q2
    have hst3 : Stay none H0 H3 := (hst.trans c5).over q3 ho
    obtain ⟨x', o2, ps', H', z1, z2, z3, z4, z5, z6⟩ := loop37 hG hg (prot := prot) d (i + 1) _ (some o') (ps ++ [pm]) H3 (by omega) hst3 q2 (by simp [hl]) (fun id h => by cases h; exact q4) (fun j p hj => by
      by_cases hjl : j < ps.length
      · rw [List.getElem?_append_left hjl] at hj
        obtain ⟨m1, m2, m3⟩ := hm j p hj
        refine ⟨(m1.stay c5 (by simp)).stay q3 m2, fun h => ?_, m3⟩
        have h := Option.some.inj h
        have := m1.lt
        cases hh : o with
        | none => have := q5 hh; omega
        | some k => have := q6 k hh; exact m2 (by rw [hh, ← this, h])
      · rw [List.getElem?_append_right (by omega)] at hj
        cases hk : j - ps.length with
        | zero =>
          rw [hk] at hj
          have hj : pm = p := by simpa using hj
          subst hj
          have hjv : j = i := by omega
          subst hjv
          exact ⟨(⟨M, c2, c3, c4⟩ : Mk G H2 j pm).stay q3 hne, fun h => ho'pm (Option.some.inj h), by omega⟩
        | succ k => rw [hk] at hj; simp at hj)
    refine ⟨x', o2, ps', H', ?_, z2, z3, z4, z5, z6⟩
    obtain ⟨_, _, hge⟩ := hg.len
    obtain ⟨_, _, rfl⟩ := hx.len
    subst hge
    exact lp_next (f37_L0_0 (by omega) c1 q1 (fit64 (by omega) (by omega))) z1

/-- The list of marks, one for each vertex. -/
structure WL (G : List (List Int)) (H : AHeap) (x : Value) : Prop where
  ex : ∃ ps : List Nat, Rd H 68 1 x G.length (ptl ps) ∧ ps.length = G.length ∧ ∀ (j p : Nat), ps[j]? = some p → Mk G H j p
theorem WL.stay {G : List (List Int)} {H H' : AHeap} {x : Value} (h : WL G H x) (s : Stay none H H') : WL G H' x := by
  obtain ⟨ps, h1, h2, h3⟩ := h.ex
  exact ⟨ps, h1.stay s, h2, fun j p hj => (h3 j p hj).stay s (by simp)⟩
theorem c37 {G : List (List Int)} (hG : Good G) {vG : Value} (prot : Nat) {H : AHeap} (hg : Gr H vG G) : ∃ a c H', callInf cfg 37 [vG] prot H = some (.slice a G.length c, H') ∧ WL G H' (.slice a G.length c) ∧ Stay none H H' := by
  obtain ⟨x', o', ps', H', z1, z2, z3, z4, z5, z6⟩ := loop37 hG hg (prot := prot) G.length 0 (.slice none 0 0) none [] H (by omega) (Stay.refl _ _) own_nil rfl (fun id h => by cases h) (fun j p hj => by simp at hj)
  obtain ⟨aG, cG, rfl⟩ := hg.len
  have hz3 := z3
  obtain ⟨ax, cx, rfl⟩ := z3.len
  cases ho : o' with
  | none =>
    rw [ho] at hz3
    have h0 : G.length = 0 := hz3.2.1
    rcases hz3.2.2 with hx | hx
    · have : pfin a37 H [.slice ax G.length cx] H' = (.slice ax G.length cx, H) := by
        rw [pfin_eq, if_neg (by simp [a37]), hx]
        exact gc_plain rfl
      refine ⟨ax, cx, H, f37_F_0 _ _ z1 this, ⟨[], ⟨by rw [h0]; rfl, .inl ⟨h0, .inl hx⟩⟩, by simp [h0], fun j p hj => by simp at hj⟩, Stay.refl _ _⟩
    · have : pfin a37 H [.slice ax G.length cx] H' = (.slice ax G.length cx, H) := by
        rw [pfin_eq, if_neg (by simp [a37]), hx]
        rfl
      refine ⟨ax, cx, H, f37_F_0 _ _ z1 this, ⟨[], ⟨by rw [h0]; rfl, .inl ⟨h0, .inr hx⟩⟩, by simp [h0], fun j p hj => by simp at hj⟩, Stay.refl _ _⟩
  | some id =>
    rw [ho] at hz3
    have hpos : 0 < G.length := hz3.2.1
    have hnp : (ptl ps').all plain0 = false := by
      rw [List.all_eq_false]
      cases ps' with
      | nil => simp at z4; omega
      | cons p ps => exact ⟨.pointer (some ⟨p, 0, some 512⟩), by simp [ptl], by simp [plain0]⟩
    have : pfin a37 H [.slice ax G.length cx] H' = (.slice ax G.length cx, H') := by
      rw [pfin_eq, if_neg (by simp [a37])]
      exact gc_not hz3 hnp
    exact ⟨ax, cx, H', f37_F_0 _ _ z1 this, ⟨ps', z3.rd, z4, fun j p hj => (z6 j p hj).1⟩, z2⟩
theorem WL.at {G : List (List Int)} {H : AHeap} {x : Value} (h : WL G H x) {v u : Nat} (hv : v < G.length) (hu : u < 512) :
    ∃ id L p b, aindexAddr cfg.P 65 x (.int .i64 v) = some (.pointer (some ⟨id, v, some L⟩)) ∧ getCells H id L v 1 = some [.pointer (some ⟨p, 0, some 512⟩)] ∧ getCells H p 512 (0 + u * 1) 1 = some [.bool b] ∧ (b = true ↔ Rch G v u) := by
  obtain ⟨ps, h1, h2, h3⟩ := h.ex
  have hp : ps[v]? = some ps[v] := List.getElem?_eq_getElem (by omega)
  obtain ⟨id, L, a, b⟩ := rd_at T65 h1 (show (ptl ps)[v]? = some (.pointer (some ⟨ps[v], 0, some 512⟩)) by unfold ptl; rw [List.getElem?_map, hp]; rfl)
  obtain ⟨M, m1, m2, m3⟩ := (h3 v _ hp).ex
  exact ⟨id, L, ps[v], at_ M u, a, b, arr_get m1 (by simp [bll, m2]) (at_get (by omega)), m3 u⟩
end Go.Proofs.Ytkemihfaohkoeaa.Am11
namespace Go.Proofs.Ytkemihfaohkoeaa.Am11
open Go Go.Proofs.Ytkemihfaohkoeaa.Am
/-- Does each one reach the other? -/
noncomputable def mu (G : List (List Int)) (v u : Nat) : Bool := @decide (Rch G v u ∧ Rch G u v) (Classical.propDecidable _)
theorem mu_iff {G : List (List Int)} {v u : Nat} : mu G v u = true ↔ Rch G v u ∧ Rch G u v := by unfold mu; exact @decide_eq_true_iff _ (Classical.propDecidable _)
def findM (p : Nat → Bool) : Nat → Nat → Option Nat
  | 0, _ => none
  | d + 1, u => if p u then some u else findM p d (u + 1)
theorem findM_some {p : Nat → Bool} : ∀ {d u w : Nat}, findM p d u = some w → u ≤ w ∧ w < u + d ∧ p w = true
  | 0, _, _, h => by cases h
  | d + 1, u, w, h => by
    rw [findM] at h
    split at h
    · cases h; rename_i hp; exact ⟨Nat.le_refl _, by omega, hp⟩
    · obtain ⟨a, b, c⟩ := findM_some h; exact ⟨by omega, by omega, c⟩
theorem findM_none {p : Nat → Bool} : ∀ {d u : Nat}, findM p d u = none → ∀ w, u ≤ w → w < u + d → p w = false
  | 0, _, _, w, h1, h2 => by omega
  | d + 1, u, h, w, h1, h2 => by
    rw [findM] at h
    split at h
    · cases h
    · rename_i hp
      by_cases e : w = u
      · subst e; simpa using hp
      · exact findM_none h w (by omega) (by omega)
/-- The numbers of the components. -/
noncomputable def numR (G : List (List Int)) : Nat → Nat → List Nat → Nat → List Nat × Nat
  | 0, _, out, n => (out, n)
  | d + 1, v, out, n => match findM (mu G v) v 0 with
    | some u => numR G d (v + 1) (out ++ [out.getD u 0]) n
    | none => numR G d (v + 1) (out ++ [n]) (n + 1)
noncomputable def comp (G : List (List Int)) : List Nat × Nat := numR G G.length 0 [] 0
def nl (l : List Nat) : List Int := l.map fun (x : Nat) => (x : Int)
def pad (N : Nat) (l : List Int) : List Int := l ++ List.replicate (N - l.length) 0
theorem pad_len {N : Nat} {l : List Int} (h : l.length ≤ N) : (pad N l).length = N := by unfold pad; simp; omega
theorem pad_set {N : Nat} {l : List Int} {x : Int} (h : l.length < N) : (pad N l).set l.length x = pad N (l ++ [x]) := by
  unfold pad
  rw [List.set_append_right _ _ (Nat.le_refl _), Nat.sub_self, show N - l.length = (N - (l ++ [x]).length) + 1 by simp; omega, List.replicate_succ, List.set_cons_zero]
  simp
theorem pad_set2 {N : Nat} {l : List Int} {x y : Int} : (pad N (l ++ [x])).set l.length y = pad N (l ++ [y]) := by
  unfold pad
  rw [List.append_assoc, List.set_append_right _ _ (Nat.le_refl _), Nat.sub_self, List.append_assoc]
  simp
theorem pad_get {N : Nat} {l : List Int} {u : Nat} (h : u < l.length) : (pad N l).getD u 0 = l.getD u 0 := by
  unfold pad
  rw [List.getD_eq_getElem?_getD, List.getElem?_append_left h, ← List.getD_eq_getElem?_getD]
theorem put_il (l : List Int) {i : Nat} (hi : i < l.length) (c : Int) : putList (il l) (i * 1 + 0) [.int .i64 c] = il (l.set i c) := put_map (Value.int .i64) l hi c

theorem loop36i {G : List (List Int)} (hG : Good G) {G0 : AHeap} {x1 : Value} (hw : WL G G0 x1) {o6 : Nat} (ho : G0.length ≤ o6) {H0 : AHeap} (hp : H0.length ≤ o6) {prot : Nat} {x6 : Value} {n : Int} {v : Nat} (hv : v < G.length) {D : List Int} (hD : D.length = G.length) (hx1 : ∃ a c, x1 = .slice a G.length c) : ∀ (d u : Nat) (H : AHeap), u + d = v → Stay none G0 H → Own H 3 1 x6 (some o6) G.length (il D) →
    ∃ H', lpInf (lpOf cfg a36 1 prot H0) ([x1, x6, .int .i64 n, .int .i64 v, .int .i64 G.length, .int .i64 v, .int .i64 v, .int .i64 u], H) = some (.exit 2, [x1, x6, .int .i64 n, .int .i64 v, .int .i64 G.length, .int .i64 v], H') ∧
      Own H' 3 1 x6 (some o6) G.length (il (match findM (mu G v) d u with | some w => D.set v (D.getD w 0) | none => D)) ∧ Stay (some o6) H H'
  | 0, u, H, hu, hst, hx => by
    obtain ⟨_, _, rfl⟩ := hx1
    have hx0 := hx
    obtain ⟨_, _, rfl⟩ := hx.len
    exact ⟨H, lp_last (f36_L1_3 (by omega)), hx0, Stay.refl _ _⟩
  | d + 1, u, H, hu, hst, hx => by
    have hn := hG.1
    obtain ⟨i1, L1, p1, b1, a1, a2, a3, a4⟩ := (hw.stay hst).at hv (show u < 512 by omega)
    obtain ⟨i2, L2, p2, b2, c1, c2, c3, c4⟩ := (hw.stay hst).at (show u < G.length by omega) (show v < 512 by omega)
    have fi : Fit .i64 ((u : Int) + 1) := fit64 (by omega) (by omega)
    obtain ⟨ax, cx, rfl⟩ := hx1
    rw [findM]
    by_cases hm : mu G v u = true
    · rw [if_pos hm]
      obtain ⟨m1, m2⟩ := mu_iff.1 hm
      have hb1 := a4.2 m1
      have hb2 := c4.2 m2
      subst hb1; subst hb2
      obtain ⟨_, e1, q1, q2⟩ := own_at T34 hx (show (il D)[u]? = some (.int .i64 (D.getD u 0)) by rw [il_get (by omega), List.getD_eq_getElem?_getD, List.getElem?_eq_getElem (by omega)]; rfl)
      cases e1
      obtain ⟨_, H2, e2, s1, s2, s3, s4, s5⟩ := own_setS T34 hx (i := v) (j := 0) hv (vs := [.int .i64 (D.getD u 0)]) (by simp) rfl (prot := H0.length) (fun id h => by cases h; exact hp)
      cases e2
      rw [put_il D (by omega)] at s3
      obtain ⟨_, _, rfl⟩ := hx.len
      exact ⟨H2, lp_last (f36_L1_0 (by omega) a1 a2 (by omega) (by omega) a3 rfl c1 c2 (by omega) (by omega) c3 rfl q1 q2 s1 rfl s2), s3, s4⟩
    · rw [if_neg hm]
      obtain ⟨H', z1, z2, z3⟩ := loop36i hG hw ho hp (prot := prot) (n := n) hv hD ⟨ax, cx, rfl⟩ d (u + 1) H (by omega) hst hx
      refine ⟨H', ?_, z2, z3⟩
      obtain ⟨_, _, rfl⟩ := hx.len
      cases b1 with
      | true =>
        cases b2 with
        | true => exact absurd (mu_iff.2 ⟨a4.1 rfl, c4.1 rfl⟩) hm
        | false => exact lp_next (f36_L1_1 (by omega) a1 a2 (by omega) (by omega) a3 rfl c1 c2 (by omega) (by omega) c3 rfl fi) z1
      | false => exact lp_next (f36_L1_2 (by omega) a1 a2 (by omega) (by omega) a3 rfl fi) z1

theorem loop36o {G : List (List Int)} (hG : Good G) {G0 : AHeap} {x1 : Value} (hw : WL G G0 x1) {o6 : Nat} (ho : G0.length ≤ o6) {H0 : AHeap} (hp : H0.length ≤ o6) {prot : Nat} {x6 : Value} (hx1 : ∃ a c, x1 = .slice a G.length c) : ∀ (d v : Nat) (out : List Nat) (n : Nat) (H : AHeap), v + d = G.length → out.length = v → n ≤ v → (∀ x ∈ out, x < 512) → Stay none G0 H → Own H 3 1 x6 (some o6) G.length (il (pad G.length (nl out))) →
    ∃ H', lpInf (lpOf cfg a36 0 prot H0) ([x1, x6, .int .i64 n, .int .i64 G.length, .int .i64 v], H) = some (.exit 0, [x6, .int .i64 (numR G d v out n).2], H') ∧ Own H' 3 1 x6 (some o6) G.length (il (nl (numR G d v out n).1)) ∧ (numR G d v out n).1.length = G.length ∧ Stay (some o6) H H'
  | 0, v, out, n, H, hv, hl, hn, h512, hst, hx => by
    have he : pad G.length (nl out) = nl out := by unfold pad; rw [show G.length - (nl out).length = 0 by simp [nl]; omega]; simp
    rw [he] at hx
    obtain ⟨_, _, rfl⟩ := hx1
    have hx0 := hx
    obtain ⟨_, _, rfl⟩ := hx.len
    exact ⟨H, lp_last (f36_L0_2 (by omega)), hx0, by show out.length = G.length; omega, Stay.refl _ _⟩
  | d + 1, v, out, n, H, hv, hl, hn, h512, hst, hx => by
    have h5 := hG.1
    have hnl : (nl out).length = v := by simp [nl, hl]
    have hvl : v < G.length := by omega
    obtain ⟨_, H2, e2, s1, s2, s3, s4, s5⟩ := own_setS T34 hx (i := v) (j := 0) hvl (vs := [.int .i64 (-1)]) (by simp) rfl (prot := H0.length) (fun id h => by cases h; exact hp)
    cases e2
    rw [put_il _ (by rw [pad_len (by omega)]; exact hvl), show v = (nl out).length from hnl.symm, pad_set (by omega)] at s3
    have hst2 : Stay none G0 H2 := hst.over s4 (fun id h => by cases h; exact ho)
    have hDl : (pad G.length (nl out ++ [-1])).length = G.length := pad_len (by simp; omega)
    obtain ⟨H3, u1, u2, u3⟩ := loop36i hG hw ho hp (prot := prot) (n := (n : Int)) hvl hDl hx1 v 0 H2 (by omega) hst2 s3
    have hst3 : Stay none G0 H3 := hst2.over u3 (fun id h => by cases h; exact ho)
    obtain ⟨ax, cx, hxe⟩ := hx1
    have hx6 := hx.len
    rw [numR]
    cases hf : findM (mu G v) v 0 with
    | some u =>
      rw [hf] at u2
      obtain ⟨_, hu, _⟩ := findM_some hf
      have hget : (pad G.length (nl out ++ [-1])).getD u 0 = ((out.getD u 0 : Nat) : Int) := by
        rw [pad_get (by simp; omega), List.getD_eq_getElem?_getD, List.getElem?_append_left (by omega)]
        unfold nl
        rw [List.getElem?_map, List.getD_eq_getElem?_getD, List.getElem?_eq_getElem (by omega)]
        rfl
      simp only at u2
      rw [hget, show v = (nl out).length from hnl.symm, pad_set2] at u2
      have hnl2 : nl out ++ [((out.getD u 0 : Nat) : Int)] = nl (out ++ [out.getD u 0]) := by simp [nl]
      rw [hnl2] at u2
      have hval : out.getD u 0 < 512 := by
        rw [List.getD_eq_getElem?_getD, List.getElem?_eq_getElem (by omega)]
        exact h512 _ (List.getElem_mem _)
      obtain ⟨H', z1, z2, z3, z4⟩ := loop36o hG hw ho hp (prot := prot) ⟨ax, cx, hxe⟩ d (v + 1) (out ++ [out.getD u 0]) n H3 (by omega) (by simp [hl]) (by omega) (fun x hx => by
        rw [List.mem_append, List.mem_singleton] at hx
        rcases hx with hx | rfl
        · exact h512 x hx
        · exact hval) hst3 u2
      have hrow : (il (pad G.length (nl (out ++ [out.getD u 0]))))[v]? = some (.int .i64 ((out.getD u 0 : Nat) : Int)) := by
        unfold il pad
        rw [List.getElem?_map, List.getElem?_append_left (by simp [nl]; omega)]
        unfold nl
        rw [List.map_append, List.getElem?_append_right (by simp; omega)]
        simp [hl]
      obtain ⟨_, e3, q1, q2⟩ := own_at T34 u2 hrow
      cases e3
      refine ⟨H', ?_, z2, z3, (s4.trans u3).trans z4⟩
      obtain ⟨a6, c6, rfl⟩ := hx6
      subst hxe
      exact lp_next (f36_L0_1 (by omega) s1 rfl s2 u1 q1 q2 (by omega) (fit64 (by omega) (by omega))) z1
    | none =>
      rw [hf] at u2
      simp only at u2
      have hrow : (il (pad G.length (nl out ++ [-1])))[v]? = some (.int .i64 (-1)) := by
        unfold il pad
        rw [List.getElem?_map, List.getElem?_append_left (by simp; omega), List.getElem?_append_right (by omega), hnl, Nat.sub_self]
        rfl
      obtain ⟨_, e3, q1, q2⟩ := own_at T34 u2 hrow
      cases e3
      obtain ⟨_, H4, e4, t1, t2, t3, t4, t5⟩ := own_setS T34 u2 (i := v) (j := 0) hvl (vs := [.int .i64 (n : Int)]) (by simp) rfl (prot := H0.length) (fun id h => by cases h; exact hp)
      cases e4
      rw [put_il _ (by rw [hDl]; exact hvl)] at t3
      rw [show v = (nl out).length from hnl.symm, pad_set2] at t3
      have hnl2 : nl out ++ [((n : Nat) : Int)] = nl (out ++ [n]) := by simp [nl]
      rw [hnl2] at t3
      obtain ⟨H', z1, z2, z3, z4⟩ := loop36o hG hw ho hp (prot := prot) ⟨ax, cx, hxe⟩ d (v + 1) (out ++ [n]) (n + 1) H4 (by omega) (by simp [hl]) (by omega) (fun x hx => by
        rw [List.mem_append, List.mem_singleton] at hx
        rcases hx with hx | rfl
        · exact h512 x hx
        · omega) (hst3.over t4 (fun id h => by cases h; exact ho)) t3
      refine ⟨H', ?_, z2, z3, ((s4.trans u3).trans t4).trans z4⟩
      obtain ⟨a6, c6, rfl⟩ := hx6
      subst hxe
      exact lp_next (f36_L0_0 (by omega) s1 rfl s2 u1 q1 q2 (by omega) t1 rfl t2 (fit64 (by omega) (by omega)) (fit64 (by omega) (by omega))) z1
end Go.Proofs.Ytkemihfaohkoeaa.Am11
namespace Go.Proofs.Ytkemihfaohkoeaa.Am
open Go
/-- A row of one's own, it may be empty. -/
def OwnE (H : AHeap) (e : Nat) (x : Value) (n : Nat) (cs : List Value) (b : Nat) : Prop :=
  (∃ o, Own H e 1 x o n cs ∧ ∀ id, o = some id → b ≤ id) ∨ (n = 0 ∧ cs = [] ∧ ∃ id, x = .slice (some ⟨id, 0, some 0⟩) 0 0 ∧ b ≤ id ∧ H[id]? = some (.cells [] e 0 .row))
theorem OwnE.rd {H : AHeap} {e n b : Nat} {x : Value} {cs : List Value} (h : OwnE H e x n cs b) : Rd H e 1 x n cs := by
  rcases h with ⟨o, h, _⟩ | ⟨rfl, rfl, id, rfl, _, h⟩
  · exact h.rd
  · exact ⟨rfl, .inr ⟨id, 0, 0, .row, 0, [], rfl, Nat.le_refl _, Nat.le_refl _, Nat.le_refl _, h, rfl⟩⟩
theorem OwnE.stay {H H' : AHeap} {e n b : Nat} {x : Value} {cs : List Value} (h : OwnE H e x n cs b) (s : Stay none H H') : OwnE H' e x n cs b := by
  rcases h with ⟨o, h, h2⟩ | ⟨rfl, rfl, id, rfl, h1, h⟩
  · exact .inl ⟨o, h.stay s (fun _ _ h => by cases h), h2⟩
  · exact .inr ⟨rfl, rfl, id, rfl, h1, by rw [s.2 id (List.getElem?_eq_some_iff.1 h).1 (by simp)]; exact h⟩
theorem OwnE.weak {H : AHeap} {e n b c : Nat} {x : Value} {cs : List Value} (h : OwnE H e x n cs b) (hc : c ≤ b) : OwnE H e x n cs c := by
  rcases h with ⟨o, h, h2⟩ | ⟨a1, a2, id, a3, h1, h⟩
  · exact .inl ⟨o, h, fun id e => Nat.le_trans hc (h2 id e)⟩
  · exact .inr ⟨a1, a2, id, a3, Nat.le_trans hc h1, h⟩
/-- It is handed back. -/
theorem gcE {H H1 : AHeap} {e n : Nat} {x : Value} {cs : List Value} (h : OwnE H1 e x n cs H.length) (hp : cs.all plain0 = true) {ps : List Value} (hps : ps.all plain1 = true) :
    ∃ x' H', gc H (x :: ps) H1 = (tupled (x' :: ps), H') ∧ OwnE H' e x' n cs H.length ∧ Stay none H H' := by
  rcases h with ⟨o, h, h2⟩ | ⟨rfl, rfl, id, rfl, h1, h⟩
  · obtain ⟨x', o', H', g1, g2, g3, g4, _⟩ := gc_row h h2 hp hps
    exact ⟨x', H', g1, .inl ⟨o', g2, g4⟩, g3⟩
  · refine ⟨.slice (some ⟨H.length, 0, some 0⟩) 0 0, H ++ [.cells [] e 0 .row], ?_, .inr ⟨rfl, rfl, H.length, rfl, Nat.le_refl _, append_get.1⟩, Stay.app none H _⟩
    unfold gc
    simp only [gcHeap]
    simp only [sliceIds, sliceIds_plain ps hps, noDup, List.contains_nil, Bool.not_false, Bool.and_self, if_true, keepAll, keep1]
    rw [if_neg (by omega), h]
    simp only
    rw [if_pos ⟨rfl, by simp⟩, Option.bind_some, keepAll_plain ps _ hps]
    simp
theorem own_mk {e n : Nat} (hn : 0 < n) (H : AHeap) (c : Value) : Own (H ++ [.cells (repCells [c] n) e (repCells [c] n).length .row]) e 1 (.slice (some ⟨H.length, 0, some (n * 1)⟩) n n) (some H.length) n (List.replicate n c) := by
  have e1 : repCells [c] n = List.replicate n c := by
    have := rep_map (fun _ : Nat => c) 0 n
    rw [this, List.map_replicate]
  rw [e1]
  exact own_new (by simp) hn (by simp) rfl
end Go.Proofs.Ytkemihfaohkoeaa.Am
namespace Go.Proofs.Ytkemihfaohkoeaa.Am11
open Go Go.Proofs.Ytkemihfaohkoeaa.Am
theorem c36 {G : List (List Int)} (hG : Good G) {vG x1 : Value} (prot : Nat) {H : AHeap} (hg : Gr H vG G) (hw : WL G H x1) (hx1 : ∃ a c, x1 = .slice a G.length c) :
    ∃ x' H', callInf cfg 36 [vG, x1] prot H = some (.tuple #[x', .int .i64 (comp G).2], H') ∧ OwnE H' 3 x' G.length (il (nl (comp G).1)) H.length ∧ (comp G).1.length = G.length ∧ Stay none H H' := by
  have h5 := hG.1
  obtain ⟨aG, cG, rfl⟩ := hg.len
  by_cases h0 : 0 < G.length
  · obtain ⟨HA, hHA⟩ : ∃ HA, HA = H ++ [AObj.cells (repCells [.int .i64 0] G.length) 3 (repCells [.int .i64 0] G.length).length .row] := ⟨_, rfl⟩
    have sA : Stay none H HA := by rw [hHA]; exact Stay.app none H _
    have m : Own HA 3 1 (.slice (some ⟨H.length, 0, some (G.length * 1)⟩) G.length G.length) (some H.length) G.length (il (pad G.length (nl []))) := by
      rw [hHA]
      have := own_mk (e := 3) h0 H (.int .i64 0)
      have e1 : il (pad G.length (nl [])) = List.replicate G.length (.int .i64 0) := by simp [il, pad, nl]
      rw [e1]
      exact this
    obtain ⟨H1, z1, z2, z3, z4⟩ := loop36o hG hw (Nat.le_refl _) (H0 := H) (Nat.le_refl _) (prot := prot) hx1 G.length 0 [] 0 HA (by omega) rfl (Nat.le_refl _) (fun x h => by cases h) sA m
    obtain ⟨x', o', H', g1, g2, g3, g4, _⟩ := gc_row (H := H) (ps := [.int .i64 ((comp G).2 : Nat)]) z2 (fun id h => by cases h; exact Nat.le_refl _) (il_plain _) rfl
    refine ⟨x', H', ?_, .inl ⟨o', g2, g4⟩, z3, g3⟩
    obtain ⟨ax, cx, rfl⟩ := hx1
    subst hHA
    exact f36_F_0 _ _ (by omega) rfl (by omega) (by omega) z1 (by rw [pfin_eq, if_neg (by simp [a36])]; exact g1)
  · have hn : G = [] := List.eq_nil_of_length_eq_zero (by omega)
    subst hn
    obtain ⟨ax, cx, rfl⟩ := hx1
    have hl : lpInf (lpOf cfg a36 0 prot H) ([.slice ax 0 cx, .slice (some ⟨H.length, 0, some (0 * 1)⟩) 0 0, .int .i64 0, .int .i64 ((0 : Nat) : Int), .int .i64 0], H ++ [AObj.cells (repCells [.int .i64 0] 0) 3 (repCells [.int .i64 0] 0).length .row]) = some (.exit 0, [.slice (some ⟨H.length, 0, some (0 * 1)⟩) 0 0, .int .i64 0], H ++ [AObj.cells (repCells [.int .i64 0] 0) 3 (repCells [.int .i64 0] 0).length .row]) :=
      lp_last (f36_L0_2 (by decide))
    have hE : OwnE (H ++ [AObj.cells (repCells [.int .i64 0] 0) 3 (repCells [.int .i64 0] 0).length .row]) 3 (.slice (some ⟨H.length, 0, some (0 * 1)⟩) 0 0) 0 [] H.length := .inr ⟨rfl, rfl, H.length, rfl, Nat.le_refl _, append_get.1⟩
    obtain ⟨x', H', g1, g2, g3⟩ := gcE (H := H) hE rfl (ps := [.int .i64 0]) rfl
    exact ⟨x', H', f36_F_0 _ _ (by omega) rfl (by omega) (by decide) hl (by rw [pfin_eq, if_neg (by simp [a36])]; exact g1), g2, rfl, g3⟩

theorem c18 {G : List (List Int)} (hs : Short G) {vG : Value} (prot : Nat) {H : AHeap} (hg : Gr H vG G) :
    (chk G ≠ 0 ∧ callInf cfg 18 [vG] prot H = some (.tuple #[.slice none 0 0, .int .i64 0, .int .i64 (chk G)], H)) ∨
    (chk G = 0 ∧ ∃ x' H', callInf cfg 18 [vG] prot H = some (.tuple #[x', .int .i64 (comp G).2, .int .i64 0], H') ∧ OwnE H' 3 x' G.length (il (nl (comp G).1)) H.length ∧ (comp G).1.length = G.length ∧ Stay none H H') := by
  have h25 := c25 hs H.length hg
  have hgl := hg.len
  by_cases h : chk G = 0
  · refine .inr ⟨h, ?_⟩
    have hG := good_of hs h
    obtain ⟨a, c, H1, w1, w2, w3⟩ := c37 hG H.length hg
    obtain ⟨y, H2, n1, n2, n3, n4⟩ := c36 hG H.length (hg.stay w3) w2 ⟨a, c, rfl⟩
    obtain ⟨x', H', g1, g2, g3⟩ := gcE (H := H) (n2.weak w3.1) (il_plain _) (ps := [.int .i64 ((comp G).2 : Nat), .int .i64 0]) rfl
    refine ⟨x', H', ?_, g2, n3, g3⟩
    obtain ⟨aG, cG, rfl⟩ := hgl
    obtain ⟨ay, cy, rfl⟩ := n2.rd.len
    exact f18_F_1 _ _ h25 (by simp [h]) w1 n1 (by rw [pfin_eq, if_neg (by simp [a18])]; exact g1)
  · refine .inl ⟨h, ?_⟩
    obtain ⟨aG, cG, rfl⟩ := hgl
    exact f18_F_0 h25 (by simpa using h)
end Go.Proofs.Ytkemihfaohkoeaa.Am11
set_option linter.unusedVariables false
open Go Go.Proofs.Ytkemihfaohkoeaa.Am
namespace Go.Proofs.Ytkemihfaohkoeaa.Am11
theorem f46_F_0 {x0 : Array Value} {x1 : Int} {H : AHeap} {prot x4p x4o x4l : Nat} {H1 : AHeap} {x7 : Bool} {x13 : Int} {H2 : AHeap} {x19 : Array Value} {H3 : AHeap} {w : Array Value} (rv : Value) (rH : AHeap) (h1 : x0.toList.all isCell = true) (h2 : aalloc cfg.P 39 (H ++ [AObj.cells x0.toList 39 x0.toList.length OMode.var]) = some (Value.pointer (some ⟨x4p, x4o, some x4l⟩), H1)) (h3 : callInf cfg 50 [Value.int .i64 x1] (List.length H) H1 = some (Value.bool x7, H1)) (h4 : (!x7) = false) (h5 : Fit .i64 (x1.tdiv 64)) (h6 : 0 ≤ x1.tdiv 64) (h7 : x1.tdiv 64 < (↑8 : Int)) (h8 : getCells H1 (List.length H) x0.toList.length (0 + (x1.tdiv 64).toNat * 1) 1 = some [Value.int .u64 x13]) (h9 : 0 ≤ x1.tmod 64) (h10 : [Value.int .u64 (IntKind.u64.wrap (↑(BitVec.ofInt IntKind.u64.bits x13 ||| BitVec.ofInt IntKind.u64.bits (IntKind.u64.wrap (1 * 2 ^ min (x1.tmod 64).toNat IntKind.u64.bits))).toNat : Int))].length = 1) (h11 : setCells H1 (List.length H) (List.length H) x0.toList.length (0 + (x1.tdiv 64).toNat * 1) [Value.int .u64 (IntKind.u64.wrap (↑(BitVec.ofInt IntKind.u64.bits x13 ||| BitVec.ofInt IntKind.u64.bits (IntKind.u64.wrap (1 * 2 ^ min (x1.tmod 64).toNat IntKind.u64.bits))).toNat : Int))] = some H2) (h12 : getCells H2 (List.length H) x0.toList.length 0 8 = some x19.toList) (h13 : x19.toList.length = 8) (h14 : setCells H2 (List.length H) x4p x4l x4o x19.toList = some H3) (h15 : getCells H3 x4p x4l x4o 8 = some w.toList) (h16 : pfin a46 H [Value.agg w, Value.int .i64 0] H3 = (rv, rH)) : callInf cfg 46 [.agg x0, .int .i64 x1] prot H = some (rv, rH) :=
  fn_of2 a46 [.e, .r (.pointer (some ⟨x4p, x4o, some x4l⟩)) H1, .v (.bool x7), .e, .b false, .e, .e, .v (.int .u64 x13), .e, .e, .e, .e, .h H2, .v (.agg x19), .h H3, .v (.agg w)] (ai h1 (ai h2 (ai h3 (ai h4 (ai (show (64 : Int) ≠ 0 by decide) (ai h5 (ai h6 (ai h7 (ai h8 (ai (show (64 : Int) ≠ 0 by decide) (ai h9 (ai h6 (ai h7 (ai h10 (ai h11 (ai h12 (ai h13 (ai h14 (ai h15 h16))))))))))))))))))) (by kernel_rfl) rfl
end Go.Proofs.Ytkemihfaohkoeaa.Am11
set_option linter.unusedVariables false
open Go Go.Proofs.Ytkemihfaohkoeaa.Am
namespace Go.Proofs.Ytkemihfaohkoeaa.Am11
theorem f50_F_0 {x0 : Int} {H : AHeap} {prot : Nat} (h1 : x0 ≥ 0) : callInf cfg 50 [.int .i64 x0] prot H = some (Value.bool (decide (x0 < 512)), H) :=
  fn_of2 a50 [.e, .b true, .b true, .e, .b true] (ai (decide_eq_true h1) (ai (decide_eq_true h1) (ai (decide_eq_true h1) (Eq.refl ((Value.bool (decide (x0 < 512)), H) : Value × AHeap))))) (by kernel_rfl) rfl
end Go.Proofs.Ytkemihfaohkoeaa.Am11
set_option linter.unusedVariables false
open Go Go.Proofs.Ytkemihfaohkoeaa.Am
namespace Go.Proofs.Ytkemihfaohkoeaa.Am11
theorem f38_F_0 {x0 : Array Value} {x1 : Int} {H : AHeap} {prot x4p x4o x4l : Nat} {H1 : AHeap} {x8 x10a : Array Value} {x10b : Int} {x5p x5o x5l : Nat} {H2 H3 : AHeap} {x13 : Array Value} {H4 : AHeap} {w : Array Value} (rv : Value) (rH : AHeap) (h1 : x0.toList.all isCell = true) (h2 : aalloc cfg.P 39 (H ++ [AObj.cells x0.toList 39 x0.toList.length OMode.var]) = some (Value.pointer (some ⟨x4p, x4o, some x4l⟩), H1)) (h3 : getCells H1 (List.length H) x0.toList.length 0 8 = some x8.toList) (h4 : callInf cfg 46 [Value.agg x8, Value.int .i64 x1] (List.length H) H1 = some (Value.tuple { toList := [Value.agg x10a, Value.int .i64 x10b] }, H1)) (h5 : aalloc cfg.P 39 H1 = some (Value.pointer (some ⟨x5p, x5o, some x5l⟩), H2)) (h6 : x10a.toList.length = 8) (h7 : setCells H2 (List.length H) x5p x5l x5o x10a.toList = some H3) (h8 : getCells H3 x5p x5l x5o 8 = some x13.toList) (h9 : x13.toList.length = 8) (h10 : setCells H3 (List.length H) x4p x4l x4o x13.toList = some H4) (h11 : getCells H4 x4p x4l x4o 8 = some w.toList) (h12 : pfin a38 H [Value.agg w] H4 = (rv, rH)) : callInf cfg 38 [.agg x0, .int .i64 x1] prot H = some (rv, rH) :=
  fn_of2 a38 [.e, .r (.pointer (some ⟨x4p, x4o, some x4l⟩)) H1, .v (.agg x8), .v (.tuple #[.agg x10a, .int .i64 x10b]), .r (.pointer (some ⟨x5p, x5o, some x5l⟩)) H2, .h H3, .v (.agg x13), .h H4, .v (.agg w)] (ai h1 (ai h2 (ai h3 (ai h4 (ai h5 (ai h6 (ai h7 (ai h8 (ai h9 (ai h10 (ai h11 h12))))))))))) (by kernel_rfl) rfl
end Go.Proofs.Ytkemihfaohkoeaa.Am11
set_option linter.unusedVariables false
open Go Go.Proofs.Ytkemihfaohkoeaa.Am
namespace Go.Proofs.Ytkemihfaohkoeaa.Am11
theorem f20_F_0 {x0 : Array Value} {x1 : Int} {H : AHeap} {prot : Nat} {x8 : Int} (h1 : x0.toList.all isCell = true) (h2 : Fit .i64 (x1.tdiv 64)) (h3 : 0 ≤ x1.tdiv 64) (h4 : x1.tdiv 64 < (↑8 : Int)) (h5 : getCells (H ++ [AObj.cells x0.toList 39 x0.toList.length OMode.var]) (List.length H) x0.toList.length (0 + (x1.tdiv 64).toNat * 1) 1 = some [Value.int .u64 x8]) (h6 : 0 ≤ IntKind.u64.wrap (x1.tmod 64)) : callInf cfg 20 [.agg x0, .int .i64 x1] prot H = some (Value.bool (IntKind.u64.wrap (↑(BitVec.ofInt IntKind.u64.bits (x8.fdiv (2 ^ min (IntKind.u64.wrap (x1.tmod 64)).toNat IntKind.u64.bits)) &&& BitVec.ofInt IntKind.u64.bits 1).toNat : Int) == 1), H) :=
  fn_of2 a20 [.e, .e, .e, .v (.int .u64 x8), .e, .e, .e, .e, .e] (ai h1 (ai (show (64 : Int) ≠ 0 by decide) (ai h2 (ai h3 (ai h4 (ai h5 (ai (show (64 : Int) ≠ 0 by decide) (ai h6 (Eq.refl ((Value.bool (IntKind.u64.wrap (↑(BitVec.ofInt IntKind.u64.bits (x8.fdiv (2 ^ min (IntKind.u64.wrap (x1.tmod 64)).toNat IntKind.u64.bits)) &&& BitVec.ofInt IntKind.u64.bits 1).toNat : Int) == 1), H) : Value × AHeap)))))))))) (by kernel_rfl) rfl
end Go.Proofs.Ytkemihfaohkoeaa.Am11
namespace Go.Proofs.Ytkemihfaohkoeaa.Am11
open Go Go.Proofs.Ytkemihfaohkoeaa.Am
theorem z39 : tzero cfg.P 39 = some (.agg ((List.replicate 8 (.int .u64 0)).toArray)) := by kernel_rfl
theorem al39 (H : AHeap) : aalloc cfg.P 39 H = some (.pointer (some ⟨H.length, 0, some 8⟩), H ++ [.cells (setL noS) 39 8 .var]) := by
  rw [setL_no]; exact alloc_arr z39 rfl H
theorem pf_plain {fn : AFunc} {H H' : AHeap} {vs : List Value} (hm : fn.muts = false) (h : vs.all plain1 = true) : pfin fn H vs H' = (tupled vs, H) := by
  rw [pfin_eq, if_neg (by simp [hm])]; exact gc_plain h

theorem c46 {S : Nat → Bool} {i : Nat} (hi : i < 512) (prot : Nat) (H : AHeap) : callInf cfg 46 [.agg (setA S), .int .i64 i] prot H = some (.tuple #[.agg (setA (addS S i)), .int .i64 0], H) := by
  obtain ⟨HA, hHA⟩ : ∃ HA, HA = H ++ [AObj.cells (setL S) 39 (setL S).length .var] := ⟨_, rfl⟩
  have lA : HA.length = H.length + 1 := by rw [hHA]; simp
  obtain ⟨HB, hHB⟩ : ∃ HB, HB = HA ++ [AObj.cells (setL noS) 39 8 .var] := ⟨_, rfl⟩
  have lB : HB.length = H.length + 2 := by rw [hHB, List.length_append, List.length_singleton]; omega
  have gA : HB[H.length]? = some (.cells (setL S) 39 8 .var) := by
    rw [hHB, List.getElem?_append_left (by omega), hHA, append_get.1, setL_len]
  have gB : HB[HA.length]? = some (.cells (setL noS) 39 8 .var) := by rw [hHB]; exact append_get.1
  have ha := al39 HA
  rw [← hHB] at ha
  have h50 : callInf cfg 50 [.int .i64 (i : Int)] H.length HB = some (.bool true, HB) := by
    have := f50_F_0 (x0 := (i : Int)) (H := HB) (prot := H.length) (by omega)
    rwa [decide_eq_true (show (i : Int) < 512 by omega)] at this
  have ed : (i : Int).tdiv 64 = ((i / 64 : Nat) : Int) := tdiv64 i
  have hw : i / 64 < 8 := by omega
  have r1 := arr_get gA (setL_len S) (setL_get hw)
  obtain ⟨HC, hHC⟩ : ∃ HC, HC = HB.set H.length (.cells (setL (addS S i)) 39 8 .var) := ⟨_, rfl⟩
  have s1 : setCells HB H.length H.length 8 (0 + i / 64 * 1) [.int .u64 ((wordS S (i / 64) ||| 2 ^ (i % 64) : Nat) : Int)] = some HC := by
    rw [hHC, ← setL_add hi]
    exact arr_set gA (setL_len S) (Nat.le_refl _) hw rfl
  have gC : HC[H.length]? = some (.cells (setL (addS S i)) 39 8 .var) := by rw [hHC, List.getElem?_set_self (by omega)]
  have gC2 : HC[HA.length]? = some (.cells (setL noS) 39 8 .var) := by rw [hHC, List.getElem?_set_ne (by omega)]; exact gB
  obtain ⟨HD, hHD⟩ : ∃ HD, HD = HC.set HA.length (.cells (setL (addS S i)) 39 8 .var) := ⟨_, rfl⟩
  have s2 : setCells HC H.length HA.length 8 0 (setL (addS S i)) = some HD := by rw [hHD]; exact arr_put gC2 (setL_len _) (by omega) (setL_len _) (setL_cell _)
  have lC : HC.length = HB.length := by rw [hHC]; simp
  have gD : HD[HA.length]? = some (.cells (setL (addS S i)) 39 8 .var) := by rw [hHD, List.getElem?_set_self (by omega)]
  have hor := bit_or (a := wordS S (i / 64)) (i := i) (wordS_lt _ _) (tmod64 i)
  rw [← hor] at s1
  have e8 : (setA S).toList.length = 8 := setL_len S
  subst hHA
  refine f46_F_0 (x13 := ((wordS S (i / 64) : Nat) : Int)) (x19 := setA (addS S i)) (w := setA (addS S i)) _ _ (setL_cell S) ha h50 rfl (by rw [ed]; exact fit64 (by omega) (by omega)) (by rw [ed]; omega) (by rw [ed]; omega) ?_ (by rw [tmod64]; omega) rfl ?_ ?_ (setL_len _) s2 (arr_all gD (setL_len _)) (pf_plain rfl (by rw [List.all_cons, setA_plain]; rfl))
  · rw [e8, ed, Int.toNat_natCast]; exact r1
  · rw [e8, ed, Int.toNat_natCast]; exact s1
  · rw [e8]; exact arr_all gC (setL_len _)
theorem c38 {S : Nat → Bool} {i : Nat} (hi : i < 512) (prot : Nat) (H : AHeap) : callInf cfg 38 [.agg (setA S), .int .i64 i] prot H = some (.agg (setA (addS S i)), H) := by
  obtain ⟨HA, hHA⟩ : ∃ HA, HA = H ++ [AObj.cells (setL S) 39 (setL S).length .var] := ⟨_, rfl⟩
  have lA : HA.length = H.length + 1 := by rw [hHA]; simp
  obtain ⟨HB, hHB⟩ : ∃ HB, HB = HA ++ [AObj.cells (setL noS) 39 8 .var] := ⟨_, rfl⟩
  have lB : HB.length = H.length + 2 := by rw [hHB, List.length_append, List.length_singleton]; omega
  have gA : HB[H.length]? = some (.cells (setL S) 39 8 .var) := by
    rw [hHB, List.getElem?_append_left (by omega), hHA, append_get.1, setL_len]
  have gB : HB[HA.length]? = some (.cells (setL noS) 39 8 .var) := by rw [hHB]; exact append_get.1
  have ha := al39 HA
  rw [← hHB] at ha
  obtain ⟨HC, hHC⟩ : ∃ HC, HC = HB ++ [AObj.cells (setL noS) 39 8 .var] := ⟨_, rfl⟩
  have lC : HC.length = H.length + 3 := by rw [hHC, List.length_append, List.length_singleton]; omega
  have ha2 := al39 HB
  rw [← hHC] at ha2
  have gC : HC[HB.length]? = some (.cells (setL noS) 39 8 .var) := by rw [hHC]; exact append_get.1
  have gC2 : HC[HA.length]? = some (.cells (setL noS) 39 8 .var) := by rw [hHC, List.getElem?_append_left (by omega)]; exact gB
  obtain ⟨HD, hHD⟩ : ∃ HD, HD = HC.set HB.length (.cells (setL (addS S i)) 39 8 .var) := ⟨_, rfl⟩
  have s1 : setCells HC H.length HB.length 8 0 (setL (addS S i)) = some HD := by rw [hHD]; exact arr_put gC (setL_len _) (by omega) (setL_len _) (setL_cell _)
  have gD : HD[HB.length]? = some (.cells (setL (addS S i)) 39 8 .var) := by rw [hHD, List.getElem?_set_self (by omega)]
  have gD2 : HD[HA.length]? = some (.cells (setL noS) 39 8 .var) := by rw [hHD, List.getElem?_set_ne (by omega)]; exact gC2
  obtain ⟨HE, hHE⟩ : ∃ HE, HE = HD.set HA.length (.cells (setL (addS S i)) 39 8 .var) := ⟨_, rfl⟩
  have s2 : setCells HD H.length HA.length 8 0 (setL (addS S i)) = some HE := by rw [hHE]; exact arr_put gD2 (setL_len _) (by omega) (setL_len _) (setL_cell _)
  have gE : HE[HA.length]? = some (.cells (setL (addS S i)) 39 8 .var) := by rw [hHE, List.getElem?_set_self (by rw [hHD, List.length_set]; omega)]
  have h46 := c46 (S := S) hi H.length HB
  have e8 : (setA S).toList.length = 8 := setL_len S
  subst hHA
  refine f38_F_0 (x8 := setA S) (x10a := setA (addS S i)) (x13 := setA (addS S i)) (w := setA (addS S i)) _ _ (setL_cell S) ha ?_ h46 ha2 (setL_len _) s1 (arr_all gD (setL_len _)) (setL_len _) s2 (arr_all gE (setL_len _)) (pf_plain rfl (by rw [List.all_cons, setA_plain]; rfl))
  rw [e8]; exact arr_all gA (setL_len _)
theorem c20 {S : Nat → Bool} {i : Nat} (hi : i < 512) (prot : Nat) (H : AHeap) : callInf cfg 20 [.agg (setA S), .int .i64 i] prot H = some (.bool (S i), H) := by
  have gA : (H ++ [AObj.cells (setL S) 39 (setL S).length .var])[H.length]? = some (.cells (setL S) 39 8 .var) := by rw [append_get.1, setL_len]
  have ed : (i : Int).tdiv 64 = ((i / 64 : Nat) : Int) := tdiv64 i
  have hw : i / 64 < 8 := by omega
  have r1 := arr_get gA (setL_len S) (setL_get hw)
  have em : IntKind.u64.wrap ((i : Int).tmod 64) = ((i % 64 : Nat) : Int) := by rw [tmod64, u64_wrapN, Nat.mod_eq_of_lt (by omega)]
  have hand := bit_and (a := wordS S (i / 64)) (i := i) (wordS_lt _ _) em
  have e8 : (setA S).toList.length = 8 := setL_len S
  have h := f20_F_0 (x0 := setA S) (x1 := (i : Int)) (x8 := ((wordS S (i / 64) : Nat) : Int)) (H := H) (prot := prot) (setL_cell S) (by rw [ed]; exact fit64 (by omega) (by omega)) (by rw [ed]; omega) (by rw [ed]; omega) (by rw [e8, ed, Int.toNat_natCast]; exact r1) (by rw [em]; omega)
  rw [hand] at h
  have hb : (((wordS S (i / 64) / 2 ^ (i % 64) % 2 : Nat) : Int) == 1) = S i := by
    rw [Bool.eq_iff_iff, beq_iff_eq, ← wordS_bit]
    omega
  rw [hb] at h
  exact h
end Go.Proofs.Ytkemihfaohkoeaa.Am11
set_option linter.unusedVariables false
open Go Go.Proofs.Ytkemihfaohkoeaa.Am
namespace Go.Proofs.Ytkemihfaohkoeaa.Am11
end Go.Proofs.Ytkemihfaohkoeaa.Am11
namespace Go.Proofs.Ytkemihfaohkoeaa.Am11
open Go Go.Proofs.Ytkemihfaohkoeaa.Am
/-- All that is reached, the vertex too. -/
noncomputable def rs (G : List (List Int)) (f : Nat) : Nat → Bool := fun x => @decide (x = f ∨ Rch G f x) (Classical.propDecidable _)
theorem rs_iff {G : List (List Int)} {f x : Nat} : rs G f x = true ↔ x = f ∨ Rch G f x := by unfold rs; exact @decide_eq_true_iff _ (Classical.propDecidable _)
/-- What Reach answers. -/
noncomputable def reachV (G : List (List Int)) (f : Int) : (Nat → Bool) × Int :=
  if chk G ≠ 0 then (noS, chk G) else if f < 0 ∨ (G.length : Int) ≤ f then (noS, 3) else (rs G f.toNat, 0)
end Go.Proofs.Ytkemihfaohkoeaa.Am11
set_option linter.unusedVariables false
open Go Go.Proofs.Ytkemihfaohkoeaa.Am
namespace Go.Proofs.Ytkemihfaohkoeaa.Am11
theorem f43_F_0 {x0 : Array Value} {x1 : Int} {H : AHeap} {prot x4p x4o x4l : Nat} {H1 : AHeap} {x10 : Int} {H2 : AHeap} {x17 : Array Value} {H3 : AHeap} {w : Array Value} (rv : Value) (rH : AHeap) (h1 : x0.toList.all isCell = true) (h2 : aalloc cfg.P 39 (H ++ [AObj.cells x0.toList 39 x0.toList.length OMode.var]) = some (Value.pointer (some ⟨x4p, x4o, some x4l⟩), H1)) (h3 : Fit .i64 (x1.tdiv 64)) (h4 : 0 ≤ x1.tdiv 64) (h5 : x1.tdiv 64 < (↑8 : Int)) (h6 : getCells H1 (List.length H) x0.toList.length (0 + (x1.tdiv 64).toNat * 1) 1 = some [Value.int .u64 x10]) (h7 : 0 ≤ IntKind.u64.wrap (x1.tmod 64)) (h8 : [Value.int .u64 (IntKind.u64.wrap (↑(BitVec.ofInt IntKind.u64.bits x10 ||| BitVec.ofInt IntKind.u64.bits (IntKind.u64.wrap (1 * 2 ^ min (IntKind.u64.wrap (x1.tmod 64)).toNat IntKind.u64.bits))).toNat : Int))].length = 1) (h9 : setCells H1 (List.length H) (List.length H) x0.toList.length (0 + (x1.tdiv 64).toNat * 1) [Value.int .u64 (IntKind.u64.wrap (↑(BitVec.ofInt IntKind.u64.bits x10 ||| BitVec.ofInt IntKind.u64.bits (IntKind.u64.wrap (1 * 2 ^ min (IntKind.u64.wrap (x1.tmod 64)).toNat IntKind.u64.bits))).toNat : Int))] = some H2) (h10 : getCells H2 (List.length H) x0.toList.length 0 8 = some x17.toList) (h11 : x17.toList.length = 8) (h12 : setCells H2 (List.length H) x4p x4l x4o x17.toList = some H3) (h13 : getCells H3 x4p x4l x4o 8 = some w.toList) (h14 : pfin a43 H [Value.agg w] H3 = (rv, rH)) : callInf cfg 43 [.agg x0, .int .i64 x1] prot H = some (rv, rH) :=
  fn_of2 a43 [.e, .r (.pointer (some ⟨x4p, x4o, some x4l⟩)) H1, .e, .e, .e, .v (.int .u64 x10), .e, .e, .e, .e, .e, .h H2, .v (.agg x17), .h H3, .v (.agg w)] (ai h1 (ai h2 (ai (show (64 : Int) ≠ 0 by decide) (ai h3 (ai (show (64 : Int) ≠ 0 by decide) (ai h3 (ai h4 (ai h5 (ai h6 (ai (show (64 : Int) ≠ 0 by decide) (ai h7 (ai h4 (ai h5 (ai h8 (ai h9 (ai h10 (ai h11 (ai h12 (ai h13 h14))))))))))))))))))) (by kernel_rfl) rfl
end Go.Proofs.Ytkemihfaohkoeaa.Am11
namespace Go.Proofs.Ytkemihfaohkoeaa.Am11
open Go Go.Proofs.Ytkemihfaohkoeaa.Am
theorem slot_get {H : AHeap} {p : Nat} {S : Nat → Bool} (h : H[p]? = some (.cells (setL S) 39 8 .var)) : getCells H p 8 0 8 = some (setA S).toList := arr_all h (setL_len S)

theorem loop26i {G : List (List Int)} (hs : Short G) {x : Value} {H0 H : AHeap} {prot : Nat} (hx : Gr H x G) {v : Nat} (hv : v < G.length) : ∀ (d i : Nat), i + d = G[v].length →
    lpInf (lpOf cfg a26 1 prot H0) ([x, .int .i64 v, .int .i64 i], H) =
      some (if bad G.length (G[v].drop i) then (.ret, [x, .int .i64 11, .int .i64 v], H) else (.exit 2, [x, .tuple #[], .int .i64 v], H))
  | 0, i, hi => by
    obtain ⟨id, L, r, a1, a2, a3⟩ := hx.row hv
    rw [List.drop_of_length_le (by omega)]
    obtain ⟨_, _, rfl⟩ := hx.len
    obtain ⟨_, _, rfl⟩ := a3.len
    exact lp_last (f26_L1_3 a1 a2 (by omega))
  | d + 1, i, hi => by
    obtain ⟨id, L, r, a1, a2, a3⟩ := hx.row hv
    have hl := hs _ (List.getElem_mem hv)
    have hil : i < G[v].length := by omega
    obtain ⟨id2, L2, p, q⟩ := rd_at T34 a3 (il_get hil)
    have ih := loop26i hs hx hv (H0 := H0) (prot := prot) d (i + 1) (by omega)
    rw [List.drop_eq_getElem_cons hil]
    unfold bad at ih ⊢
    rw [List.any_cons]
    obtain ⟨_, _, rfl⟩ := hx.len
    obtain ⟨_, _, rfl⟩ := a3.len
    by_cases h1 : G[v][i] < 0
    · rw [decide_eq_true (.inl h1), Bool.true_or, if_pos rfl]
      exact lp_last (f26_L1_0 a1 a2 (by omega) a1 a2 p q h1)
    · by_cases h2 : (G.length : Int) ≤ G[v][i]
      · rw [decide_eq_true (.inr h2), Bool.true_or, if_pos rfl]
        exact lp_last (f26_L1_1 a1 a2 (by omega) a1 a2 p q h1 a1 a2 p q (by omega))
      · rw [decide_eq_false (by omega), Bool.false_or]
        exact lp_next (f26_L1_2 a1 a2 (by omega) a1 a2 p q h1 a1 a2 p q (by omega) (fit64 (by omega) (by omega))) ih
theorem loop26o {G : List (List Int)} (hs : Short G) (hn : G.length ≤ 512) {x : Value} {H0 H : AHeap} {prot : Nat} (hx : Gr H x G) : ∀ (d i : Nat), i + d = G.length →
    ∃ e vs, lpInf (lpOf cfg a26 0 prot H0) ([x, .int .i64 i], H) = some (e, vs, H) ∧ ((e = .exit 0 ∧ vs = [.tuple #[]] ∧ (G.drop i).any (bad G.length) = false) ∨ (e = .ret ∧ vs = [.int .i64 11] ∧ (G.drop i).any (bad G.length) = true))
  | 0, i, hi => by
    rw [List.drop_of_length_le (by omega)]
    obtain ⟨_, _, rfl⟩ := hx.len
    exact ⟨_, _, lp_last (f26_L0_2 (by omega)), .inl ⟨rfl, rfl, rfl⟩⟩
  | d + 1, i, hi => by
    have hil : i < G.length := by omega
    obtain ⟨e, vs, z1, z2⟩ := loop26o hs hn hx (H0 := H0) (prot := prot) d (i + 1) (by omega)
    have hlp := loop26i hs hx hil (H0 := H0) (prot := prot) (G[i]).length 0 (by omega)
    rw [List.drop_zero] at hlp
    rw [List.drop_eq_getElem_cons hil, List.any_cons]
    obtain ⟨_, _, rfl⟩ := hx.len
    cases hb : bad G.length G[i] with
    | true =>
      rw [hb, if_pos rfl] at hlp
      exact ⟨_, _, lp_last (f26_L0_1 (by omega) hlp), .inr ⟨rfl, rfl, rfl⟩⟩
    | false =>
      rw [hb, if_neg (by simp)] at hlp
      exact ⟨e, vs, lp_next (f26_L0_0 (by omega) hlp (fit64 (by omega) (by omega))) z1, z2⟩
theorem c26 {G : List (List Int)} (hs : Short G) {x : Value} (prot : Nat) {H : AHeap} (hx : Gr H x G) : callInf cfg 26 [x] prot H = some (.int .i64 (chk G), H) := by
  obtain ⟨a, c, hxe⟩ := hx.len
  unfold chk
  by_cases h : 512 < G.length
  · rw [if_pos h]
    subst hxe
    exact f26_F_0 (by omega)
  · rw [if_neg h]
    obtain ⟨e, vs, z1, z2⟩ := loop26o hs (by omega) hx (H0 := H) (prot := prot) G.length 0 (by omega)
    rw [List.drop_zero] at z2
    subst hxe
    rcases z2 with ⟨rfl, rfl, h3⟩ | ⟨rfl, rfl, h3⟩
    · rw [h3, if_neg (by simp)]
      exact f26_F_1 (by omega) z1
    · rw [h3, if_pos rfl]
      exact f26_F_2 (by omega) z1

theorem c43 {S : Nat → Bool} {i : Nat} (hi : i < 512) (prot : Nat) (H : AHeap) : callInf cfg 43 [.agg (setA S), .int .i64 i] prot H = some (.agg (setA (addS S i)), H) := by
  obtain ⟨HA, hHA⟩ : ∃ HA, HA = H ++ [AObj.cells (setL S) 39 (setL S).length .var] := ⟨_, rfl⟩
  have lA : HA.length = H.length + 1 := by rw [hHA]; simp
  obtain ⟨HB, hHB⟩ : ∃ HB, HB = HA ++ [AObj.cells (setL noS) 39 8 .var] := ⟨_, rfl⟩
  have lB : HB.length = H.length + 2 := by rw [hHB, List.length_append, List.length_singleton]; omega
  have gA : HB[H.length]? = some (.cells (setL S) 39 8 .var) := by
    rw [hHB, List.getElem?_append_left (by omega), hHA, append_get.1, setL_len]
  have gB : HB[HA.length]? = some (.cells (setL noS) 39 8 .var) := by rw [hHB]; exact append_get.1
  have ha := al39 HA
  rw [← hHB] at ha
  have ed : (i : Int).tdiv 64 = ((i / 64 : Nat) : Int) := tdiv64 i
  have hw : i / 64 < 8 := by omega
  have r1 := arr_get gA (setL_len S) (setL_get hw)
  obtain ⟨HC, hHC⟩ : ∃ HC, HC = HB.set H.length (.cells (setL (addS S i)) 39 8 .var) := ⟨_, rfl⟩
  have s1 : setCells HB H.length H.length 8 (0 + i / 64 * 1) [.int .u64 ((wordS S (i / 64) ||| 2 ^ (i % 64) : Nat) : Int)] = some HC := by
    rw [hHC, ← setL_add hi]
    exact arr_set gA (setL_len S) (Nat.le_refl _) hw rfl
  have gC : HC[H.length]? = some (.cells (setL (addS S i)) 39 8 .var) := by rw [hHC, List.getElem?_set_self (by omega)]
  have gC2 : HC[HA.length]? = some (.cells (setL noS) 39 8 .var) := by rw [hHC, List.getElem?_set_ne (by omega)]; exact gB
  obtain ⟨HD, hHD⟩ : ∃ HD, HD = HC.set HA.length (.cells (setL (addS S i)) 39 8 .var) := ⟨_, rfl⟩
  have s2 : setCells HC H.length HA.length 8 0 (setL (addS S i)) = some HD := by rw [hHD]; exact arr_put gC2 (setL_len _) (by omega) (setL_len _) (setL_cell _)
  have lC : HC.length = HB.length := by rw [hHC]; simp
  have gD : HD[HA.length]? = some (.cells (setL (addS S i)) 39 8 .var) := by rw [hHD, List.getElem?_set_self (by omega)]
  have em : IntKind.u64.wrap ((i : Int).tmod 64) = ((i % 64 : Nat) : Int) := by rw [tmod64, u64_wrapN, Nat.mod_eq_of_lt (by omega)]
  have hor := bit_or (a := wordS S (i / 64)) (i := i) (wordS_lt _ _) em
  rw [← hor] at s1
  have e8 : (setA S).toList.length = 8 := setL_len S
  subst hHA
  refine f43_F_0 (x10 := ((wordS S (i / 64) : Nat) : Int)) (x17 := setA (addS S i)) (w := setA (addS S i)) _ _ (setL_cell S) ha (by rw [ed]; exact fit64 (by omega) (by omega)) (by rw [ed]; omega) (by rw [ed]; omega) ?_ (by rw [em]; omega) rfl ?_ ?_ (setL_len _) s2 (arr_all gD (setL_len _)) (pf_plain rfl (by rw [List.all_cons, setA_plain]; rfl))
  · rw [e8, ed, Int.toNat_natCast]; exact r1
  · rw [e8, ed, Int.toNat_natCast]; exact s1
  · rw [e8]; exact arr_all gC (setL_len _)
end Go.Proofs.Ytkemihfaohkoeaa.Am11
set_option linter.unusedVariables false
open Go Go.Proofs.Ytkemihfaohkoeaa.Am
namespace Go.Proofs.Ytkemihfaohkoeaa.Am11
theorem f44_F_0 {x0a : Option Addr} {x0n x0c : Nat} {x1a : Option Addr} {x1n x1c : Nat} {H : AHeap} {prot x4p x4o x4l : Nat} {H1 : AHeap} {x5p x5o x5l : Nat} {H2 : AHeap} {z0a : Option Addr} {z0n z0c z4p z4o z4l z5p z5o z5l : Nat} {z6a : Option Addr} {z6n z6c : Nat} {H3 : AHeap} {z4p_2 z4o_2 z4l_2 z5p_2 z5o_2 z5l_2 : Nat} {H4 : AHeap} {x88 : Array Value} {H5 : AHeap} {w : Array Value} (rv : Value) (rH : AHeap) (h1 : aalloc cfg.P 39 H = some (Value.pointer (some ⟨x4p, x4o, some x4l⟩), H1)) (h2 : aalloc cfg.P 39 H1 = some (Value.pointer (some ⟨x5p, x5o, some x5l⟩), H2)) (h3 : lpInf (lpOf cfg a44 0 prot H) ([Value.slice x0a x0n x0c, Value.slice x1a x1n x1c, Value.pointer (some ⟨x4p, x4o, some x4l⟩), Value.pointer (some ⟨x5p, x5o, some x5l⟩), Value.slice none 0 0, Value.int .i64 0], H2) = some (Ex.exit 0, [Value.slice z0a z0n z0c, Value.pointer (some ⟨z4p, z4o, some z4l⟩), Value.pointer (some ⟨z5p, z5o, some z5l⟩), Value.slice z6a z6n z6c], H3)) (h4 : lpInf (lpOf cfg a44 1 prot H) ([Value.slice z0a z0n z0c, Value.pointer (some ⟨z4p, z4o, some z4l⟩), Value.pointer (some ⟨z5p, z5o, some z5l⟩), Value.slice z6a z6n z6c], H3) = some (Ex.exit 2, [Value.pointer (some ⟨z4p_2, z4o_2, some z4l_2⟩), Value.pointer (some ⟨z5p_2, z5o_2, some z5l_2⟩)], H4)) (h5 : getCells H4 z5p_2 z5l_2 z5o_2 8 = some x88.toList) (h6 : x88.toList.length = 8) (h7 : setCells H4 (List.length H) z4p_2 z4l_2 z4o_2 x88.toList = some H5) (h8 : getCells H5 z4p_2 z4l_2 z4o_2 8 = some w.toList) (h9 : pfin a44 H [Value.agg w] H5 = (rv, rH)) : callInf cfg 44 [.slice x0a x0n x0c, .slice x1a x1n x1c] prot H = some (rv, rH) :=
  fn_of2 a44 [.r (.pointer (some ⟨x4p, x4o, some x4l⟩)) H1, .r (.pointer (some ⟨x5p, x5o, some x5l⟩)) H2, .lo (.exit 0, [.slice z0a z0n z0c, .pointer (some ⟨z4p, z4o, some z4l⟩), .pointer (some ⟨z5p, z5o, some z5l⟩), .slice z6a z6n z6c], H3), .lo (.exit 2, [.pointer (some ⟨z4p_2, z4o_2, some z4l_2⟩), .pointer (some ⟨z5p_2, z5o_2, some z5l_2⟩)], H4), .v (.agg x88), .h H5, .v (.agg w)] (ai h1 (ai h2 (ai h3 (ai h4 (ai h5 (ai h6 (ai h7 (ai h8 h9)))))))) (by kernel_rfl) rfl
theorem f44_L0_0 {x0a : Option Addr} {x0n x0c : Nat} {x1a : Option Addr} {x1n x1c x4p x4o x4l x5p x5o x5l : Nat} {x6a : Option Addr} {x6n x6c : Nat} {x7 : Int} {H0 : AHeap} {prot : Nat} {H : AHeap} {x16 : Array Value} {x19p x19o x19l : Nat} {x20 : Int} {x21 : Bool} (h1 : x7 < (↑x1n : Int)) (h2 : getCells H x5p x5l x5o 8 = some x16.toList) (h3 : aindexAddr cfg.P 34 (Value.slice x1a x1n x1c) (Value.int .i64 x7) = some (Value.pointer (some ⟨x19p, x19o, some x19l⟩))) (h4 : getCells H x19p x19l x19o 1 = some [Value.int .i64 x20]) (h5 : callInf cfg 20 [Value.agg x16, Value.int .i64 x20] (List.length H0) H = some (Value.bool x21, H)) (h6 : (!x21) = false) (h7 : Fit .i64 (x7 + 1)) : lpOf cfg a44 0 prot H0 ([.slice x0a x0n x0c, .slice x1a x1n x1c, .pointer (some ⟨x4p, x4o, some x4l⟩), .pointer (some ⟨x5p, x5o, some x5l⟩), .slice x6a x6n x6c, .int .i64 x7], H) = some (Sum.inl ([Value.slice x0a x0n x0c, Value.slice x1a x1n x1c, Value.pointer (some ⟨x4p, x4o, some x4l⟩), Value.pointer (some ⟨x5p, x5o, some x5l⟩), Value.slice x6a x6n x6c, Value.int .i64 (x7 + 1)], H)) :=
  lp_of2 [.e, .e, .b true, .v (.agg x16), .v (.pointer (some ⟨x19p, x19o, some x19l⟩)), .v (.int .i64 x20), .v (.bool x21), .e, .b false, .e] (ai (decide_eq_true h1) (ai h2 (ai h3 (ai h4 (ai h5 (ai h6 (ai h7 (Eq.refl (Sum.inl ([Value.slice x0a x0n x0c, Value.slice x1a x1n x1c, Value.pointer (some ⟨x4p, x4o, some x4l⟩), Value.pointer (some ⟨x5p, x5o, some x5l⟩), Value.slice x6a x6n x6c, Value.int .i64 (x7 + 1)], H) : LS ⊕ LO))))))))) (by kernel_rfl)
theorem f44_L0_1 {x0a : Option Addr} {x0n x0c : Nat} {x1a : Option Addr} {x1n x1c x4p x4o x4l x5p x5o x5l : Nat} {x6a : Option Addr} {x6n x6c : Nat} {x7 : Int} {H0 : AHeap} {prot : Nat} {H : AHeap} {x16 : Array Value} {x19p x19o x19l : Nat} {x20 : Int} {x21 : Bool} {x23 : Array Value} {x26p x26o x26l : Nat} {x27 : Int} {x28 : Array Value} {H2 : AHeap} {x32p x32o x32l : Nat} {x33 : Int} {x35a : Option Addr} {x35n x35c : Nat} {H3 : AHeap} (h1 : x7 < (↑x1n : Int)) (h2 : getCells H x5p x5l x5o 8 = some x16.toList) (h3 : aindexAddr cfg.P 34 (Value.slice x1a x1n x1c) (Value.int .i64 x7) = some (Value.pointer (some ⟨x19p, x19o, some x19l⟩))) (h4 : getCells H x19p x19l x19o 1 = some [Value.int .i64 x20]) (h5 : callInf cfg 20 [Value.agg x16, Value.int .i64 x20] (List.length H0) H = some (Value.bool x21, H)) (h6 : (!x21) = true) (h7 : getCells H x5p x5l x5o 8 = some x23.toList) (h8 : aindexAddr cfg.P 34 (Value.slice x1a x1n x1c) (Value.int .i64 x7) = some (Value.pointer (some ⟨x26p, x26o, some x26l⟩))) (h9 : getCells H x26p x26l x26o 1 = some [Value.int .i64 x27]) (h10 : callInf cfg 43 [Value.agg x23, Value.int .i64 x27] (List.length H0) H = some (Value.agg x28, H)) (h11 : x28.toList.length = 8) (h12 : setCells H (List.length H0) x5p x5l x5o x28.toList = some H2) (h13 : aindexAddr cfg.P 34 (Value.slice x1a x1n x1c) (Value.int .i64 x7) = some (Value.pointer (some ⟨x32p, x32o, some x32l⟩))) (h14 : getCells H2 x32p x32l x32o 1 = some [Value.int .i64 x33]) (h15 : aappend cfg.P (List.length H0) true 34 34 (Value.slice x6a x6n x6c) (Value.slice (some ⟨List.length H2, 0, some (1 * 1)⟩) 1 1) (H2 ++ [wo [Value.int .i64 x33] 3]) = some (Value.slice x35a x35n x35c, H3)) (h16 : Fit .i64 (x7 + 1)) : lpOf cfg a44 0 prot H0 ([.slice x0a x0n x0c, .slice x1a x1n x1c, .pointer (some ⟨x4p, x4o, some x4l⟩), .pointer (some ⟨x5p, x5o, some x5l⟩), .slice x6a x6n x6c, .int .i64 x7], H) = some (Sum.inl ([Value.slice x0a x0n x0c, Value.slice x1a x1n x1c, Value.pointer (some ⟨x4p, x4o, some x4l⟩), Value.pointer (some ⟨x5p, x5o, some x5l⟩), Value.slice x35a x35n x35c, Value.int .i64 (x7 + 1)], H3)) :=
  lp_of2 [.e, .e, .b true, .v (.agg x16), .v (.pointer (some ⟨x19p, x19o, some x19l⟩)), .v (.int .i64 x20), .v (.bool x21), .e, .b true, .v (.agg x23), .v (.pointer (some ⟨x26p, x26o, some x26l⟩)), .v (.int .i64 x27), .v (.agg x28), .h H2, .v (.pointer (some ⟨x32p, x32o, some x32l⟩)), .v (.int .i64 x33), .e, .r (.slice x35a x35n x35c) H3, .e] (ai (decide_eq_true h1) (ai h2 (ai h3 (ai h4 (ai h5 (ai h6 (ai h7 (ai h8 (ai h9 (ai h10 (ai h11 (ai h12 (ai h13 (ai h14 (ai h15 (ai h16 (Eq.refl (Sum.inl ([Value.slice x0a x0n x0c, Value.slice x1a x1n x1c, Value.pointer (some ⟨x4p, x4o, some x4l⟩), Value.pointer (some ⟨x5p, x5o, some x5l⟩), Value.slice x35a x35n x35c, Value.int .i64 (x7 + 1)], H3) : LS ⊕ LO)))))))))))))))))) (by kernel_rfl)
theorem f44_L0_2 {x0a : Option Addr} {x0n x0c : Nat} {x1a : Option Addr} {x1n x1c x4p x4o x4l x5p x5o x5l : Nat} {x6a : Option Addr} {x6n x6c : Nat} {x7 : Int} {H0 : AHeap} {prot : Nat} {H : AHeap} (h1 : ¬(x7 < (↑x1n : Int))) : lpOf cfg a44 0 prot H0 ([.slice x0a x0n x0c, .slice x1a x1n x1c, .pointer (some ⟨x4p, x4o, some x4l⟩), .pointer (some ⟨x5p, x5o, some x5l⟩), .slice x6a x6n x6c, .int .i64 x7], H) = some (Sum.inr (Ex.exit 0, [Value.slice x0a x0n x0c, Value.pointer (some ⟨x4p, x4o, some x4l⟩), Value.pointer (some ⟨x5p, x5o, some x5l⟩), Value.slice x6a x6n x6c], H)) :=
  lp_of2 [.e, .e, .b false] (ai (decide_eq_false h1) (Eq.refl (Sum.inr (Ex.exit 0, [Value.slice x0a x0n x0c, Value.pointer (some ⟨x4p, x4o, some x4l⟩), Value.pointer (some ⟨x5p, x5o, some x5l⟩), Value.slice x6a x6n x6c], H) : LS ⊕ LO))) (by kernel_rfl)
theorem f44_L1_0 {x0a : Option Addr} {x0n x0c x4p x4o x4l x5p x5o x5l : Nat} {x6a : Option Addr} {x6n x6c : Nat} {H0 : AHeap} {prot : Nat} {H : AHeap} {x43p x43o x43l : Nat} {x44 : Int} {x49a : Option Addr} {x49n x49c : Nat} {z0a : Option Addr} {z0n z0c z4p z4o z4l z5p z5o z5l : Nat} {z6a : Option Addr} {z6n z6c : Nat} {H2 : AHeap} (h1 : (↑x6n : Int) > 0) (h2 : Fit .i64 ((↑x6n : Int) - 1)) (h3 : aindexAddr cfg.P 34 (Value.slice x6a x6n x6c) (Value.int .i64 ((↑x6n : Int) - 1)) = some (Value.pointer (some ⟨x43p, x43o, some x43l⟩))) (h4 : getCells H x43p x43l x43o 1 = some [Value.int .i64 x44]) (h5 : aslice cfg.P 34 (Value.slice x6a x6n x6c) none (some (Value.int .i64 ((↑x6n : Int) - 1))) none H = some (Value.slice x49a x49n x49c)) (h6 : lpInf (lpOf cfg a44 2 prot H0) ([Value.slice x0a x0n x0c, Value.pointer (some ⟨x4p, x4o, some x4l⟩), Value.pointer (some ⟨x5p, x5o, some x5l⟩), Value.slice x49a x49n x49c, Value.int .i64 x44, Value.int .i64 0], H) = some (Ex.exit 4, [Value.slice z0a z0n z0c, Value.pointer (some ⟨z4p, z4o, some z4l⟩), Value.pointer (some ⟨z5p, z5o, some z5l⟩), Value.slice z6a z6n z6c], H2)) : lpOf cfg a44 1 prot H0 ([.slice x0a x0n x0c, .pointer (some ⟨x4p, x4o, some x4l⟩), .pointer (some ⟨x5p, x5o, some x5l⟩), .slice x6a x6n x6c], H) = some (Sum.inl ([Value.slice z0a z0n z0c, Value.pointer (some ⟨z4p, z4o, some z4l⟩), Value.pointer (some ⟨z5p, z5o, some z5l⟩), Value.slice z6a z6n z6c], H2)) :=
  lp_of2 [.e, .e, .b true, .e, .e, .v (.pointer (some ⟨x43p, x43o, some x43l⟩)), .v (.int .i64 x44), .e, .e, .v (.slice x49a x49n x49c), .lo (.exit 4, [.slice z0a z0n z0c, .pointer (some ⟨z4p, z4o, some z4l⟩), .pointer (some ⟨z5p, z5o, some z5l⟩), .slice z6a z6n z6c], H2)] (ai (decide_eq_true h1) (ai h2 (ai h3 (ai h4 (ai h2 (ai h5 (ai h6 (Eq.refl (Sum.inl ([Value.slice z0a z0n z0c, Value.pointer (some ⟨z4p, z4o, some z4l⟩), Value.pointer (some ⟨z5p, z5o, some z5l⟩), Value.slice z6a z6n z6c], H2) : LS ⊕ LO))))))))) (by kernel_rfl)
theorem f44_L1_1 {x0a : Option Addr} {x0n x0c x4p x4o x4l x5p x5o x5l : Nat} {x6a : Option Addr} {x6n x6c : Nat} {H0 : AHeap} {prot : Nat} {H : AHeap} (h1 : ¬((↑x6n : Int) > 0)) : lpOf cfg a44 1 prot H0 ([.slice x0a x0n x0c, .pointer (some ⟨x4p, x4o, some x4l⟩), .pointer (some ⟨x5p, x5o, some x5l⟩), .slice x6a x6n x6c], H) = some (Sum.inr (Ex.exit 2, [Value.pointer (some ⟨x4p, x4o, some x4l⟩), Value.pointer (some ⟨x5p, x5o, some x5l⟩)], H)) :=
  lp_of2 [.e, .e, .b false] (ai (decide_eq_false h1) (Eq.refl (Sum.inr (Ex.exit 2, [Value.pointer (some ⟨x4p, x4o, some x4l⟩), Value.pointer (some ⟨x5p, x5o, some x5l⟩)], H) : LS ⊕ LO))) (by kernel_rfl)
theorem f44_L2_0 {x0a : Option Addr} {x0n x0c x4p x4o x4l x5p x5o x5l : Nat} {x6a : Option Addr} {x6n x6c : Nat} {x8 x9 : Int} {H0 : AHeap} {prot : Nat} {H : AHeap} {x53p x53o x53l : Nat} {x54a : Option Addr} {x54n x54c : Nat} {x59 : Array Value} {x62p x62o x62l : Nat} {x63a : Option Addr} {x63n x63c x65p x65o x65l : Nat} {x66 : Int} {x67 : Bool} (h1 : aindexAddr cfg.P 22 (Value.slice x0a x0n x0c) (Value.int .i64 x8) = some (Value.pointer (some ⟨x53p, x53o, some x53l⟩))) (h2 : getCells H x53p x53l x53o 1 = some [Value.slice x54a x54n x54c]) (h3 : x9 < (↑x54n : Int)) (h4 : getCells H x5p x5l x5o 8 = some x59.toList) (h5 : aindexAddr cfg.P 22 (Value.slice x0a x0n x0c) (Value.int .i64 x8) = some (Value.pointer (some ⟨x62p, x62o, some x62l⟩))) (h6 : getCells H x62p x62l x62o 1 = some [Value.slice x63a x63n x63c]) (h7 : aindexAddr cfg.P 34 (Value.slice x63a x63n x63c) (Value.int .i64 x9) = some (Value.pointer (some ⟨x65p, x65o, some x65l⟩))) (h8 : getCells H x65p x65l x65o 1 = some [Value.int .i64 x66]) (h9 : callInf cfg 20 [Value.agg x59, Value.int .i64 x66] (List.length H0) H = some (Value.bool x67, H)) (h10 : (!x67) = false) (h11 : Fit .i64 (x9 + 1)) : lpOf cfg a44 2 prot H0 ([.slice x0a x0n x0c, .pointer (some ⟨x4p, x4o, some x4l⟩), .pointer (some ⟨x5p, x5o, some x5l⟩), .slice x6a x6n x6c, .int .i64 x8, .int .i64 x9], H) = some (Sum.inl ([Value.slice x0a x0n x0c, Value.pointer (some ⟨x4p, x4o, some x4l⟩), Value.pointer (some ⟨x5p, x5o, some x5l⟩), Value.slice x6a x6n x6c, Value.int .i64 x8, Value.int .i64 (x9 + 1)], H)) :=
  lp_of2 [.v (.pointer (some ⟨x53p, x53o, some x53l⟩)), .v (.slice x54a x54n x54c), .e, .e, .b true, .v (.agg x59), .v (.pointer (some ⟨x62p, x62o, some x62l⟩)), .v (.slice x63a x63n x63c), .v (.pointer (some ⟨x65p, x65o, some x65l⟩)), .v (.int .i64 x66), .v (.bool x67), .e, .b false, .e] (ai h1 (ai h2 (ai (decide_eq_true h3) (ai h4 (ai h5 (ai h6 (ai h7 (ai h8 (ai h9 (ai h10 (ai h11 (Eq.refl (Sum.inl ([Value.slice x0a x0n x0c, Value.pointer (some ⟨x4p, x4o, some x4l⟩), Value.pointer (some ⟨x5p, x5o, some x5l⟩), Value.slice x6a x6n x6c, Value.int .i64 x8, Value.int .i64 (x9 + 1)], H) : LS ⊕ LO))))))))))))) (by kernel_rfl)
theorem f44_L2_1 {x0a : Option Addr} {x0n x0c x4p x4o x4l x5p x5o x5l : Nat} {x6a : Option Addr} {x6n x6c : Nat} {x8 x9 : Int} {H0 : AHeap} {prot : Nat} {H : AHeap} {x53p x53o x53l : Nat} {x54a : Option Addr} {x54n x54c : Nat} {x59 : Array Value} {x62p x62o x62l : Nat} {x63a : Option Addr} {x63n x63c x65p x65o x65l : Nat} {x66 : Int} {x67 : Bool} {x69 : Array Value} {x72p x72o x72l : Nat} {x73a : Option Addr} {x73n x73c x75p x75o x75l : Nat} {x76 : Int} {x77 : Array Value} {H2 : AHeap} {x81p x81o x81l : Nat} {x82a : Option Addr} {x82n x82c x84p x84o x84l : Nat} {x85 : Int} {x87a : Option Addr} {x87n x87c : Nat} {H3 : AHeap} (h1 : aindexAddr cfg.P 22 (Value.slice x0a x0n x0c) (Value.int .i64 x8) = some (Value.pointer (some ⟨x53p, x53o, some x53l⟩))) (h2 : getCells H x53p x53l x53o 1 = some [Value.slice x54a x54n x54c]) (h3 : x9 < (↑x54n : Int)) (h4 : getCells H x5p x5l x5o 8 = some x59.toList) (h5 : aindexAddr cfg.P 22 (Value.slice x0a x0n x0c) (Value.int .i64 x8) = some (Value.pointer (some ⟨x62p, x62o, some x62l⟩))) (h6 : getCells H x62p x62l x62o 1 = some [Value.slice x63a x63n x63c]) (h7 : aindexAddr cfg.P 34 (Value.slice x63a x63n x63c) (Value.int .i64 x9) = some (Value.pointer (some ⟨x65p, x65o, some x65l⟩))) (h8 : getCells H x65p x65l x65o 1 = some [Value.int .i64 x66]) (h9 : callInf cfg 20 [Value.agg x59, Value.int .i64 x66] (List.length H0) H = some (Value.bool x67, H)) (h10 : (!x67) = true) (h11 : getCells H x5p x5l x5o 8 = some x69.toList) (h12 : aindexAddr cfg.P 22 (Value.slice x0a x0n x0c) (Value.int .i64 x8) = some (Value.pointer (some ⟨x72p, x72o, some x72l⟩))) (h13 : getCells H x72p x72l x72o 1 = some [Value.slice x73a x73n x73c]) (h14 : aindexAddr cfg.P 34 (Value.slice x73a x73n x73c) (Value.int .i64 x9) = some (Value.pointer (some ⟨x75p, x75o, some x75l⟩))) (h15 : getCells H x75p x75l x75o 1 = some [Value.int .i64 x76]) (h16 : callInf cfg 43 [Value.agg x69, Value.int .i64 x76] (List.length H0) H = some (Value.agg x77, H)) (h17 : x77.toList.length = 8) (h18 : setCells H (List.length H0) x5p x5l x5o x77.toList = some H2) (h19 : aindexAddr cfg.P 22 (Value.slice x0a x0n x0c) (Value.int .i64 x8) = some (Value.pointer (some ⟨x81p, x81o, some x81l⟩))) (h20 : getCells H2 x81p x81l x81o 1 = some [Value.slice x82a x82n x82c]) (h21 : aindexAddr cfg.P 34 (Value.slice x82a x82n x82c) (Value.int .i64 x9) = some (Value.pointer (some ⟨x84p, x84o, some x84l⟩))) (h22 : getCells H2 x84p x84l x84o 1 = some [Value.int .i64 x85]) (h23 : aappend cfg.P (List.length H0) true 34 34 (Value.slice x6a x6n x6c) (Value.slice (some ⟨List.length H2, 0, some (1 * 1)⟩) 1 1) (H2 ++ [wo [Value.int .i64 x85] 3]) = some (Value.slice x87a x87n x87c, H3)) (h24 : Fit .i64 (x9 + 1)) : lpOf cfg a44 2 prot H0 ([.slice x0a x0n x0c, .pointer (some ⟨x4p, x4o, some x4l⟩), .pointer (some ⟨x5p, x5o, some x5l⟩), .slice x6a x6n x6c, .int .i64 x8, .int .i64 x9], H) = some (Sum.inl ([Value.slice x0a x0n x0c, Value.pointer (some ⟨x4p, x4o, some x4l⟩), Value.pointer (some ⟨x5p, x5o, some x5l⟩), Value.slice x87a x87n x87c, Value.int .i64 x8, Value.int .i64 (x9 + 1)], H3)) :=
  lp_of2 [.v (.pointer (some ⟨x53p, x53o, some x53l⟩)), .v (.slice x54a x54n x54c), .e, .e, .b true, .v (.agg x59), .v (.pointer (some ⟨x62p, x62o, some x62l⟩)), .v (.slice x63a x63n x63c), .v (.pointer (some ⟨x65p, x65o, some x65l⟩)), .v (.int .i64 x66), .v (.bool x67), .e, .b true, .v (.agg x69), .v (.pointer (some ⟨x72p, x72o, some x72l⟩)), .v (.slice x73a x73n x73c), .v (.pointer (some ⟨x75p, x75o, some x75l⟩)), .v (.int .i64 x76), .v (.agg x77), .h H2, .v (.pointer (some ⟨x81p, x81o, some x81l⟩)), .v (.slice x82a x82n x82c), .v (.pointer (some ⟨x84p, x84o, some x84l⟩)), .v (.int .i64 x85), .e, .r (.slice x87a x87n x87c) H3, .e] (ai h1 (ai h2 (ai (decide_eq_true h3) (ai h4 (ai h5 (ai h6 (ai h7 (ai h8 (ai h9 (ai h10 (ai h11 (ai h12 (ai h13 (ai h14 (ai h15 (ai h16 (ai h17 (ai h18 (ai h19 (ai h20 (ai h21 (ai h22 (ai h23 (ai h24 (Eq.refl (Sum.inl ([Value.slice x0a x0n x0c, Value.pointer (some ⟨x4p, x4o, some x4l⟩), Value.pointer (some ⟨x5p, x5o, some x5l⟩), Value.slice x87a x87n x87c, Value.int .i64 x8, Value.int .i64 (x9 + 1)], H3) : LS ⊕ LO)))))))))))))))))))))))))) (by kernel_rfl)
theorem f44_L2_2 {x0a : Option Addr} {x0n x0c x4p x4o x4l x5p x5o x5l : Nat} {x6a : Option Addr} {x6n x6c : Nat} {x8 x9 : Int} {H0 : AHeap} {prot : Nat} {H : AHeap} {x53p x53o x53l : Nat} {x54a : Option Addr} {x54n x54c : Nat} (h1 : aindexAddr cfg.P 22 (Value.slice x0a x0n x0c) (Value.int .i64 x8) = some (Value.pointer (some ⟨x53p, x53o, some x53l⟩))) (h2 : getCells H x53p x53l x53o 1 = some [Value.slice x54a x54n x54c]) (h3 : ¬(x9 < (↑x54n : Int))) : lpOf cfg a44 2 prot H0 ([.slice x0a x0n x0c, .pointer (some ⟨x4p, x4o, some x4l⟩), .pointer (some ⟨x5p, x5o, some x5l⟩), .slice x6a x6n x6c, .int .i64 x8, .int .i64 x9], H) = some (Sum.inr (Ex.exit 4, [Value.slice x0a x0n x0c, Value.pointer (some ⟨x4p, x4o, some x4l⟩), Value.pointer (some ⟨x5p, x5o, some x5l⟩), Value.slice x6a x6n x6c], H)) :=
  lp_of2 [.v (.pointer (some ⟨x53p, x53o, some x53l⟩)), .v (.slice x54a x54n x54c), .e, .e, .b false] (ai h1 (ai h2 (ai (decide_eq_false h3) (Eq.refl (Sum.inr (Ex.exit 4, [Value.slice x0a x0n x0c, Value.pointer (some ⟨x4p, x4o, some x4l⟩), Value.pointer (some ⟨x5p, x5o, some x5l⟩), Value.slice x6a x6n x6c], H) : LS ⊕ LO))))) (by kernel_rfl)
end Go.Proofs.Ytkemihfaohkoeaa.Am11
namespace Go.Proofs.Ytkemihfaohkoeaa.Am11
open Go Go.Proofs.Ytkemihfaohkoeaa.Am
/-! All that is reached, by a list of what is to be done. -/
def un (N : Nat) (S : Nat → Bool) : Nat := (List.range N).countP fun x => !S x
theorem un_succ (N : Nat) (S : Nat → Bool) : un (N + 1) S = un N S + (if S N then 0 else 1) := by
  unfold un
  rw [List.range_succ, List.countP_append]
  cases h : S N <;> simp [h]
theorem un_add {S : Nat → Bool} {u : Nat} (hs : S u = false) : ∀ N, un N (addS S u) + (if u < N then 1 else 0) = un N S
  | 0 => by simp [un]
  | N + 1 => by
    have ih := un_add hs N
    have e : addS S u N = (S N || decide (N = u)) := rfl
    have e1 := un_succ N (addS S u)
    have e2 := un_succ N S
    rw [e] at e1
    by_cases h : N = u
    · subst h
      rw [decide_eq_true rfl, Bool.or_true, if_pos rfl] at e1
      rw [hs, if_neg (by simp)] at e2
      rw [if_neg (by omega)] at ih
      rw [if_pos (by omega)]
      omega
    · rw [decide_eq_false h, Bool.or_false] at e1
      by_cases h2 : u < N
      · rw [if_pos h2] at ih
        rw [if_pos (by omega)]
        omega
      · rw [if_neg h2] at ih
        rw [if_neg (by omega)]
        omega
theorem un_le (N : Nat) (S : Nat → Bool) : un N S ≤ N := by
  have := List.countP_le_length (p := fun x => !S x) (l := List.range N)
  rw [List.length_range] at this
  exact this
/-- Vertices and all that they reach. -/
def RF (G : List (List Int)) (F : List Nat) (x : Nat) : Prop := x ∈ F ∨ ∃ f ∈ F, Rch G f x
noncomputable def rfS (G : List (List Int)) (F : List Nat) : Nat → Bool := fun x => @decide (RF G F x) (Classical.propDecidable _)
theorem rfS_iff {G : List (List Int)} {F : List Nat} {x : Nat} : rfS G F x = true ↔ RF G F x := by unfold rfS; exact @decide_eq_true_iff _ (Classical.propDecidable _)
theorem RF.step {G : List (List Int)} {F : List Nat} {x u : Nat} (h : RF G F x) (hu : u ∈ sc G x) : RF G F u := by
  rcases h with h | ⟨f, h1, h2⟩
  · exact .inr ⟨x, h, .one hu⟩
  · exact .inr ⟨f, h1, .step h2 hu⟩
structure WI (G : List (List Int)) (F : List Nat) (S : Nat → Bool) (todo : List Nat) (v : Nat) : Prop where
  sound : ∀ x, S x = true → RF G F x
  low : ∀ x, S x = true → x < G.length
  inS : ∀ t ∈ todo, S t = true
  clo : ∀ x, S x = true → x ∉ todo → x ≠ v → ∀ u ∈ sc G x, S u = true
  cnt : todo.length + un G.length S ≤ G.length
theorem WI.start (G : List (List Int)) (F : List Nat) (v : Nat) : WI G F noS [] v :=
  ⟨fun x h => (by cases h), fun x h => (by cases h), fun t h => (by cases h), fun x h => (by cases h), by have := un_le G.length noS; simpa using this⟩
theorem WI.push {G : List (List Int)} {F : List Nat} {S : Nat → Bool} {todo : List Nat} {v u : Nat} (h : WI G F S todo v) (hu : u < G.length) (hs : S u = false) (hr : RF G F u) : WI G F (addS S u) (todo ++ [u]) v := by
  have hadd : ∀ x, addS S u x = true ↔ S x = true ∨ x = u := fun x => by unfold addS; simp
  refine ⟨fun x hx => ?_, fun x hx => ?_, fun t ht => ?_, fun x hx h1 h2 w hw => ?_, ?_⟩
  · rcases (hadd x).1 hx with h1 | rfl
    · exact h.sound x h1
    · exact hr
  · rcases (hadd x).1 hx with h1 | rfl
    · exact h.low x h1
    · exact hu
  · rw [hadd]
    rcases List.mem_append.1 ht with h1 | h1
    · exact .inl (h.inS t h1)
    · exact .inr (List.mem_singleton.1 h1)
  · rw [hadd]
    rw [List.mem_append, List.mem_singleton, not_or] at h1
    rcases (hadd x).1 hx with h3 | h3
    · exact .inl (h.clo x h3 h1.1 h2 w hw)
    · exact absurd h3 h1.2
  · have h1 := un_add hs G.length
    rw [if_pos hu] at h1
    have := h.cnt
    rw [List.length_append, List.length_singleton]
    omega
theorem WI.done {G : List (List Int)} {F : List Nat} {S : Nat → Bool} (h : WI G F S [] G.length) (hF : ∀ f ∈ F, S f = true) : ∀ x, S x = rfS G F x := fun x => by
  rw [Bool.eq_iff_iff, rfS_iff]
  refine ⟨h.sound x, fun hx => ?_⟩
  have step : ∀ a b, S a = true → b ∈ sc G a → S b = true := fun a b ha hb => h.clo a ha (by simp) (by have := h.low a ha; omega) b hb
  rcases hx with hx | ⟨f, hf, hx⟩
  · exact hF x hx
  · have h0 := hF f hf
    induction hx with
    | one e => exact step _ _ h0 e
    | step _ e ih => exact step _ _ ih e

/-! ### The machine -/
structure Q (H0 H : AHeap) (p4 p5 : Nat) (x6 : Value) (o6 : Option Nat) (S : Nat → Bool) (todo : List Nat) : Prop where
  st : Stay none H0 H
  g5 : H[p5]? = some (.cells (setL S) 39 8 .var)
  b5 : H0.length ≤ p5
  g4 : H[p4]? = some (.cells (setL noS) 39 8 .var)
  n45 : p4 ≠ p5
  sk : Stk H 3 x6 o6 todo.length (il (nl todo))
  bo : ∀ id, o6 = some id → H0.length ≤ id ∧ id ≠ p5 ∧ id ≠ p4
theorem il_snoc (l : List Nat) (u : Nat) : il (nl (l ++ [u])) = il (nl l) ++ [.int .i64 (u : Int)] := by simp [il, nl]
theorem nl_get {F : List Nat} {i : Nat} (h : i < F.length) : (il (nl F))[i]? = some (.int .i64 ((F[i] : Nat) : Int)) := by simp [il, nl, h]
theorem Q.push {H0 H : AHeap} {p4 p5 : Nat} {x6 : Value} {o6 : Option Nat} {S : Nat → Bool} {todo : List Nat} (h : Q H0 H p4 p5 x6 o6 S todo) {u : Nat} (ht : todo.length ≤ 512) :
    ∃ H2 a' c' o' H3, setCells H H0.length p5 8 0 (setA (addS S u)).toList = some H2 ∧ Stay none H0 H2 ∧ aappend cfg.P H0.length true 34 34 x6 (.slice (some ⟨H2.length, 0, some (1 * 1)⟩) 1 1) (H2 ++ [wo [.int .i64 (u : Int)] 3]) = some (.slice a' (todo.length + 1) c', H3) ∧
      Q H0 H3 p4 p5 (.slice a' (todo.length + 1) c') (some o') (addS S u) (todo ++ [u]) := by
  obtain ⟨H2, hH2⟩ : ∃ H2, H2 = H.set p5 (.cells (setL (addS S u)) 39 8 .var) := ⟨_, rfl⟩
  have lt5 := (List.getElem?_eq_some_iff.1 h.g5).1
  have s2 : Stay (some p5) H H2 := by rw [hH2]; exact set_stay
  have l2 : H2.length = H.length := by rw [hH2]; simp
  have g2 : H2[p5]? = some (.cells (setL (addS S u)) 39 8 .var) := by rw [hH2, List.getElem?_set_self lt5]
  have st2 := h.st.over s2 (fun id e => by have := Option.some.inj e; have := h.b5; omega)
  have k2 := h.sk.stay s2 (fun id e e2 => (h.bo id e).2.1 (Option.some.inj e2).symm)
  have lst := st2.1
  have lt4 := (List.getElem?_eq_some_iff.1 h.g4).1
  have g42 : H2[p4]? = some (.cells (setL noS) 39 8 .var) := by rw [s2.2 _ lt4 (fun e => h.n45 (Option.some.inj e).symm)]; exact h.g4
  obtain ⟨a', c', o', H3, q1, q2, q3, q4, q5, q6⟩ := stk_push T34 k2 (v := .int .i64 (u : Int)) rfl (prot := H0.length) (fun id e => (h.bo id e).1) (by omega) (by omega) (L := 1 * 1) rfl (el := 1) rfl
  refine ⟨H2, a', c', o', H3, by rw [hH2]; exact arr_put h.g5 (setL_len _) h.b5 (setL_len _) (setL_cell _), st2, q1, ⟨st2.over q3 (fun id e => (h.bo id e).1), ?_, h.b5, ?_, h.n45, ?_, fun id e => ?_⟩⟩
  · rw [q3.2 _ (by omega) (fun e => (h.bo _ e).2.1 rfl)]; exact g2
  · rw [q3.2 _ (by omega) (fun e => (h.bo _ e).2.2 rfl)]; exact g42
  · rw [il_snoc, List.length_append]; exact q2
  · cases e
    refine ⟨q4, fun e2 => ?_, fun e2 => ?_⟩
    · cases ho : o6 with
      | none => have := q5 ho; omega
      | some k => have := q6 k ho; exact (h.bo k ho).2.1 (by omega)
    · cases ho : o6 with
      | none => have := q5 ho; omega
      | some k => have := q6 k ho; exact (h.bo k ho).2.2 (by omega)
end Go.Proofs.Ytkemihfaohkoeaa.Am11
namespace Go.Proofs.Ytkemihfaohkoeaa.Am11
open Go Go.Proofs.Ytkemihfaohkoeaa.Am
abbrev p8 (p : Nat) : Value := .pointer (some ⟨p, 0, some 8⟩)
theorem addS_mono {S : Nat → Bool} {u x : Nat} (h : S x = true) : addS S u x = true := by unfold addS; rw [h]; rfl
theorem addS_self (S : Nat → Bool) (u : Nat) : addS S u u = true := by unfold addS; simp
theorem loop44a {G : List (List Int)} (hG : G.length ≤ 512) {F : List Nat} (hF : ∀ f ∈ F, f < G.length) (hFl : F.length ≤ 140737488355328) {H0 : AHeap} {x0 x1 : Value} (hx0 : ∃ a c, x0 = .slice a G.length c) (h1 : Rd H0 3 1 x1 F.length (il (nl F))) {p4 p5 prot : Nat} : ∀ (d i : Nat) (S : Nat → Bool) (todo : List Nat) (x6 : Value) (o6 : Option Nat) (H : AHeap), i + d = F.length → Q H0 H p4 p5 x6 o6 S todo → WI G F S todo G.length → (∀ j f, j < i → F[j]? = some f → S f = true) →
    ∃ S' todo' x' o' H', lpInf (lpOf cfg a44 0 prot H0) ([x0, x1, p8 p4, p8 p5, x6, .int .i64 i], H) = some (.exit 0, [x0, p8 p4, p8 p5, x'], H') ∧ Q H0 H' p4 p5 x' o' S' todo' ∧ WI G F S' todo' G.length ∧ ∀ f ∈ F, S' f = true
  | 0, i, S, todo, x6, o6, H, hi, hq, hw, hd => by
    refine ⟨S, todo, x6, o6, H, ?_, hq, hw, fun f hf => ?_⟩
    · obtain ⟨_, _, rfl⟩ := hx0
      obtain ⟨_, _, rfl⟩ := h1.len
      obtain ⟨_, _, rfl⟩ := hq.sk.len
      exact lp_last (f44_L0_2 (by omega))
    · obtain ⟨j, hj⟩ := List.getElem?_of_mem hf
      have := (List.getElem?_eq_some_iff.1 hj).1
      exact hd j f (by omega) hj
  | d + 1, i, S, todo, x6, o6, H, hi, hq, hw, hd => by
    have hil : i < F.length := by omega
    have hu := hF _ (List.getElem_mem hil)
    obtain ⟨id, L, a1, a2⟩ := rd_at T34 (h1.stay hq.st) (nl_get hil)
    have h20 := c20 (S := S) (show F[i] < 512 by omega) H0.length H
    have fi : Fit .i64 ((i : Int) + 1) := fit64 (by omega) (by omega)
    have next : ∀ T : Nat → Bool, (∀ x, S x = true → T x = true) → T F[i] = true → ∀ j f, j < i + 1 → F[j]? = some f → T f = true := fun T h2 h3 j f hj hf => by
      by_cases e : j = i
      · subst e
        rw [List.getElem?_eq_getElem hil] at hf
        cases hf
        exact h3
      · exact h2 _ (hd j f (by omega) hf)
    by_cases hs : S F[i] = true
    · rw [hs] at h20
      obtain ⟨S', todo', x', o', H', z1, z2⟩ := loop44a hG hF hFl hx0 h1 (prot := prot) d (i + 1) S todo x6 o6 H (by omega) hq hw (next S (fun _ h => h) hs)
      refine ⟨S', todo', x', o', H', ?_, z2⟩
      obtain ⟨_, _, rfl⟩ := hx0
      obtain ⟨_, _, rfl⟩ := h1.len
      obtain ⟨_, _, rfl⟩ := hq.sk.len
      exact lp_next (f44_L0_0 (x16 := setA S) (by omega) (slot_get hq.g5) a1 a2 h20 rfl fi) z1
    · have hs : S F[i] = false := by simpa using hs
      rw [hs] at h20
      have h43 := c43 (S := S) (show F[i] < 512 by omega) H0.length H
      have hlen := hw.cnt
      obtain ⟨H2, a', c', o', H3, k1, k2, k3, k4⟩ := hq.push (u := F[i]) (by omega)
      obtain ⟨id2, L2, b1, b2⟩ := rd_at T34 (h1.stay k2) (nl_get hil)
      obtain ⟨S', todo', x', o2, H', z1, z2⟩ := loop44a hG hF hFl hx0 h1 (prot := prot) d (i + 1) _ _ _ _ H3 (by omega) k4 (hw.push hu hs (.inl (List.getElem_mem hil))) (next _ (fun _ h => addS_mono h) (addS_self _ _))
      refine ⟨S', todo', x', o2, H', ?_, z2⟩
      obtain ⟨_, _, rfl⟩ := hx0
      obtain ⟨_, _, rfl⟩ := h1.len
      obtain ⟨_, _, rfl⟩ := hq.sk.len
      exact lp_next (f44_L0_1 (x16 := setA S) (x23 := setA S) (x28 := setA (addS S F[i])) (by omega) (slot_get hq.g5) a1 a2 h20 rfl (slot_get hq.g5) a1 a2 h43 (setL_len _) k1 b1 b2 k3 fi) z1

theorem loop44c {G : List (List Int)} (hG : Good G) {F : List Nat} {H0 : AHeap} {x0 : Value} (hg : Gr H0 x0 G) {p4 p5 prot v : Nat} (hv : v < G.length) (hR : RF G F v) : ∀ (d i : Nat) (S : Nat → Bool) (todo : List Nat) (x6 : Value) (o6 : Option Nat) (H : AHeap), i + d = G[v].length → Q H0 H p4 p5 x6 o6 S todo → WI G F S todo v → S v = true → (∀ j u, j < i → (sc G v)[j]? = some u → S u = true) →
    ∃ S' todo' x' o' H', lpInf (lpOf cfg a44 2 prot H0) ([x0, p8 p4, p8 p5, x6, .int .i64 v, .int .i64 i], H) = some (.exit 4, [x0, p8 p4, p8 p5, x'], H') ∧ Q H0 H' p4 p5 x' o' S' todo' ∧ WI G F S' todo' G.length ∧ (∀ x, S x = true → S' x = true) ∧ 2 * un G.length S' + todo'.length ≤ 2 * un G.length S + todo.length
  | 0, i, S, todo, x6, o6, H, hi, hq, hw, hsv, hd => by
    obtain ⟨id, L, r, a1, a2, a3⟩ := (hg.stay hq.st).row hv
    refine ⟨S, todo, x6, o6, H, ?_, hq, ⟨hw.sound, hw.low, hw.inS, fun x hx h2 _ u hu => ?_, hw.cnt⟩, fun _ h => h, Nat.le_refl _⟩
    · obtain ⟨_, _, rfl⟩ := hg.len
      obtain ⟨_, _, rfl⟩ := hq.sk.len
      obtain ⟨_, _, rfl⟩ := a3.len
      exact lp_last (f44_L2_2 a1 a2 (by omega))
    · by_cases e : x = v
      · subst e
        obtain ⟨j, hj⟩ := List.getElem?_of_mem hu
        have := (List.getElem?_eq_some_iff.1 hj).1
        rw [sc_len hv] at this
        exact hd j u (by omega) hj
      · exact hw.clo x hx h2 e u hu
  | d + 1, i, S, todo, x6, o6, H, hi, hq, hw, hsv, hd => by
    have hG5 := hG.1
    have hil : i < G[v].length := by omega
    have hshort := hG.2.1 _ (List.getElem_mem hv)
    obtain ⟨u, hue, hul, hsc⟩ := sc_get hG hv hil
    obtain ⟨id, L, r, a1, a2, a3⟩ := (hg.stay hq.st).row hv
    obtain ⟨id3, L3, d1, d2⟩ := rd_at T34 a3 (il_get hil)
    rw [hue] at d2
    have h20 := c20 (S := S) (show u < 512 by omega) H0.length H
    have fi : Fit .i64 ((i : Int) + 1) := fit64 (by omega) (by omega)
    have next : ∀ T : Nat → Bool, (∀ x, S x = true → T x = true) → T u = true → ∀ j w, j < i + 1 → (sc G v)[j]? = some w → T w = true := fun T h2 h3 j f hj hf => by
      by_cases e : j = i
      · subst e
        rw [hsc] at hf
        cases hf
        exact h3
      · exact h2 _ (hd j f (by omega) hf)
    by_cases hs : S u = true
    · rw [hs] at h20
      obtain ⟨S', todo', x', o', H', z1, z2⟩ := loop44c hG hg (prot := prot) hv hR d (i + 1) S todo x6 o6 H (by omega) hq hw hsv (next S (fun _ h => h) hs)
      refine ⟨S', todo', x', o', H', ?_, z2⟩
      obtain ⟨_, _, rfl⟩ := hg.len
      obtain ⟨_, _, rfl⟩ := hq.sk.len
      obtain ⟨_, _, rfl⟩ := a3.len
      exact lp_next (f44_L2_0 (x59 := setA S) a1 a2 (by omega) (slot_get hq.g5) a1 a2 d1 d2 h20 rfl fi) z1
    · have hs : S u = false := by simpa using hs
      rw [hs] at h20
      have h43 := c43 (S := S) (show u < 512 by omega) H0.length H
      have hlen := hw.cnt
      obtain ⟨H2, a', c', o', H3, k1, k2, k3, k4⟩ := hq.push (u := u) (by omega)
      obtain ⟨id2, L2, r2, b1, b2, b3⟩ := (hg.stay k2).row hv
      obtain ⟨id4, L4, e1, e2⟩ := rd_at T34 b3 (il_get hil)
      rw [hue] at e2
      have hun := un_add hs G.length
      rw [if_pos hul] at hun
      obtain ⟨S', todo', x', o2, H', z1, z2, z3, z4, z5⟩ := loop44c hG hg (prot := prot) hv hR d (i + 1) _ _ _ _ H3 (by omega) k4 (hw.push hul hs (hR.step (List.mem_of_getElem? hsc))) (addS_mono hsv) (next _ (fun _ h => addS_mono h) (addS_self _ _))
      rw [List.length_append, List.length_singleton] at z5
      refine ⟨S', todo', x', o2, H', ?_, z2, z3, fun x hx => z4 x (addS_mono hx), by omega⟩
      obtain ⟨_, _, rfl⟩ := hg.len
      obtain ⟨_, _, rfl⟩ := hq.sk.len
      obtain ⟨_, _, rfl⟩ := a3.len
      obtain ⟨_, _, rfl⟩ := b3.len
      exact lp_next (f44_L2_1 (x59 := setA S) (x69 := setA S) (x77 := setA (addS S u)) a1 a2 (by omega) (slot_get hq.g5) a1 a2 d1 d2 h20 rfl (slot_get hq.g5) a1 a2 d1 d2 h43 (setL_len _) k1 b1 b2 e1 e2 k3 fi) z1

theorem loop44b {G : List (List Int)} (hG : Good G) {F : List Nat} {H0 : AHeap} {x0 : Value} (hg : Gr H0 x0 G) {p4 p5 prot : Nat} : ∀ (N : Nat) (S : Nat → Bool) (todo : List Nat) (x6 : Value) (o6 : Option Nat) (H : AHeap), 2 * un G.length S + todo.length < N → Q H0 H p4 p5 x6 o6 S todo → WI G F S todo G.length → (∀ f ∈ F, S f = true) →
    ∃ S' x' o' H', lpInf (lpOf cfg a44 1 prot H0) ([x0, p8 p4, p8 p5, x6], H) = some (.exit 2, [p8 p4, p8 p5], H') ∧ Q H0 H' p4 p5 x' o' S' [] ∧ ∀ x, S' x = rfS G F x
  | 0, S, todo, x6, o6, H, hN, hq, hw, hF => by omega
  | N + 1, S, todo, x6, o6, H, hN, hq, hw, hF => by
    have hG5 := hG.1
    cases ht : todo.getLast? with
    | none =>
      have h0 : todo = [] := List.getLast?_eq_none_iff.1 ht
      subst h0
      refine ⟨S, x6, o6, H, ?_, hq, hw.done hF⟩
      obtain ⟨_, _, rfl⟩ := hg.len
      obtain ⟨_, _, rfl⟩ := hq.sk.len
      exact lp_last (f44_L1_1 (by simp))
    | some v =>
      obtain ⟨t, rfl⟩ : ∃ t, todo = t ++ [v] := ⟨todo.dropLast, by
        have hne : todo ≠ [] := fun h => by rw [h] at ht; cases ht
        rw [List.getLast?_eq_some_getLast hne] at ht
        have := List.dropLast_concat_getLast hne
        rw [Option.some.inj ht] at this
        exact this.symm⟩
      have hsv : S v = true := hw.inS v (by simp)
      have hv := hw.low v hsv
      have hR := hw.sound v hsv
      have hcnt := hw.cnt
      rw [List.length_append, List.length_singleton] at hcnt hN
      have hk := hq.sk
      have hn : (t ++ [v]).length = t.length + 1 := by simp
      rw [hn] at hk
      have hlast : (il (nl (t ++ [v])))[t.length]? = some (.int .i64 (v : Int)) := by rw [il_snoc, List.getElem?_append_right (by simp [il, nl])]; simp [il, nl]
      obtain ⟨id, L, a1, a2⟩ := rd_last T34 hk.rd hlast
      obtain ⟨a', c', s1, s2⟩ := stk_pop T34 hk (by omega)
      have hdl : (il (nl (t ++ [v]))).dropLast = il (nl t) := by rw [il_snoc, List.dropLast_concat]
      rw [hdl, Nat.add_sub_cancel] at s2
      have hq2 : Q H0 H p4 p5 (.slice a' (t.length + 1 - 1) c') o6 S t := ⟨hq.st, hq.g5, hq.b5, hq.g4, hq.n45, by rw [Nat.add_sub_cancel]; exact s2, hq.bo⟩
      have hw2 : WI G F S t v := ⟨hw.sound, hw.low, fun x hx => hw.inS x (by simp [hx]), fun x hx h1 h2 u hu => hw.clo x hx (by simp [h1, h2]) (by have := hw.low x hx; omega) u hu, by omega⟩
      obtain ⟨S', t', x', o', H', z1, z2, z3, z4, z5⟩ := loop44c hG hg (prot := prot) hv hR G[v].length 0 S t _ o6 H (by omega) hq2 hw2 hsv (fun j u hj => by omega)
      obtain ⟨S2, x2, o2, H2, w1, w2, w3⟩ := loop44b hG hg (prot := prot) N S' t' x' o' H' (by omega) z2 z3 (fun f hf => z4 f (hF f hf))
      refine ⟨S2, x2, o2, H2, ?_, w2, w3⟩
      obtain ⟨_, _, rfl⟩ := hg.len
      obtain ⟨_, _, rfl⟩ := hk.len
      obtain ⟨_, _, rfl⟩ := z2.sk.len
      exact lp_next (f44_L1_0 (by omega) (fit64 (by omega) (by omega)) a1 a2 s1 z1) w1

theorem c44 {G : List (List Int)} (hG : Good G) {F : List Nat} (hF : ∀ f ∈ F, f < G.length) (hFl : F.length ≤ 140737488355328) {x0 x1 : Value} (prot : Nat) {H : AHeap} (hg : Gr H x0 G) (h1 : Rd H 3 1 x1 F.length (il (nl F))) :
    callInf cfg 44 [x0, x1] prot H = some (.agg (setA (rfS G F)), H) := by
  obtain ⟨HA, hHA⟩ : ∃ HA, HA = H ++ [AObj.cells (setL noS) 39 8 .var] := ⟨_, rfl⟩
  have lA : HA.length = H.length + 1 := by rw [hHA, List.length_append, List.length_singleton]
  have sA : Stay none H HA := by rw [hHA]; exact Stay.app none H _
  have a1 := al39 H
  rw [← hHA] at a1
  have gA : HA[H.length]? = some (.cells (setL noS) 39 8 .var) := by rw [hHA]; exact append_get.1
  obtain ⟨HB, hHB⟩ : ∃ HB, HB = HA ++ [AObj.cells (setL noS) 39 8 .var] := ⟨_, rfl⟩
  have lB : HB.length = H.length + 2 := by rw [hHB, List.length_append, List.length_singleton]; omega
  have sB : Stay none HA HB := by rw [hHB]; exact Stay.app none HA _
  have a2 := al39 HA
  rw [← hHB] at a2
  have gB : HB[HA.length]? = some (.cells (setL noS) 39 8 .var) := by rw [hHB]; exact append_get.1
  have gB0 : HB[H.length]? = some (.cells (setL noS) 39 8 .var) := by rw [sB.2 _ (by omega) (by simp)]; exact gA
  have hq : Q H HB H.length HA.length (.slice none 0 0) none noS [] := ⟨sA.trans sB, gB, by omega, gB0, by omega, stk_nil, fun id e => by cases e⟩
  obtain ⟨S1, t1, x1', o1, H3, z1, z2, z3, z4⟩ := loop44a hG.1 hF hFl hg.len h1 (prot := prot) F.length 0 noS [] _ none HB (by omega) hq (WI.start G F G.length) (fun j f hj => by omega)
  obtain ⟨S2, x2, o2, H4, w1, w2, w3⟩ := loop44b hG hg (prot := prot) _ S1 t1 x1' o1 H3 (Nat.lt_succ_self _) z2 z3 z4
  have hT : setL S2 = setL (rfS G F) := setL_congr fun x _ => w3 x
  have g5 := w2.g5
  rw [hT] at g5
  have g4 := w2.g4
  obtain ⟨H5, hH5⟩ : ∃ H5, H5 = H4.set H.length (.cells (setL (rfS G F)) 39 8 .var) := ⟨_, rfl⟩
  have e5 : setCells H4 H.length H.length 8 0 (setL (rfS G F)) = some H5 := by rw [hH5]; exact arr_put g4 (setL_len _) (Nat.le_refl _) (setL_len _) (setL_cell _)
  have gF : H5[H.length]? = some (.cells (setL (rfS G F)) 39 8 .var) := by rw [hH5, List.getElem?_set_self (List.getElem?_eq_some_iff.1 g4).1]
  obtain ⟨_, _, rfl⟩ := hg.len
  obtain ⟨_, _, rfl⟩ := h1.len
  obtain ⟨_, _, rfl⟩ := z2.sk.len
  exact f44_F_0 (x88 := setA (rfS G F)) (w := setA (rfS G F)) _ _ a1 a2 z1 w1 (arr_all g5 (setL_len _)) (setL_len _) e5 (arr_all gF (setL_len _)) (pf_plain rfl (by rw [List.all_cons, setA_plain]; rfl))
end Go.Proofs.Ytkemihfaohkoeaa.Am11
namespace Go.Proofs.Ytkemihfaohkoeaa.Am
open Go
/-! Lists that are their maker's own: marked, and grown in turn. -/
theorem Rd.stayE {H H' : AHeap} {e s : Nat} {x : Value} {n : Nat} {cs : List Value} (h : Rd H e s x n cs) {p e' wr : Nat} {l : List Value} {md : OMode} (hp : H[p]? = some (.cells l e' wr md)) (hne : e' ≠ e) (k : Stay (some p) H H') : Rd H' e s x n cs := by
  refine ⟨h.1, ?_⟩
  rcases h.2 with h2 | ⟨id, L, wr2, md2, c, all, h2, h3, h4, h5, h6, h7⟩
  · exact .inl h2
  · refine .inr ⟨id, L, wr2, md2, c, all, h2, h3, h4, h5, ?_, h7⟩
    rw [k.2 id (List.getElem?_eq_some_iff.1 h6).1 (fun e1 => ?_)]
    · exact h6
    · have := Option.some.inj e1
      subst this
      rw [hp] at h6
      cases h6
      exact hne rfl
theorem Own.stayE {H H' : AHeap} {e s : Nat} {x : Value} {o : Option Nat} {n : Nat} {cs : List Value} (h : Own H e s x o n cs) {p e' wr : Nat} {l : List Value} {md : OMode} (hp : H[p]? = some (.cells l e' wr md)) (hne : e' ≠ e) (k : Stay (some p) H H') : Own H' e s x o n cs := by
  refine h.stay k (fun id e1 e2 => ?_)
  have := Option.some.inj e2
  subst this
  subst e1
  obtain ⟨_, _, _, wr2, _, h2⟩ := h
  rw [hp] at h2
  cases h2
  exact hne rfl

/-- A row of one's own. -/
def RX (H : AHeap) (e : Nat) (r : Value) (n : Nat) (o : Option Nat) (vs : List Value) : Prop :=
  match o with
  | none => n = 0 ∧ vs = [] ∧ (r = .slice none 0 0 ∨ r = emptySlice)
  | some id => vs.length = n ∧ r = .slice (some ⟨id, 0, some n⟩) n n ∧ ∃ wr, wr ≤ n ∧ H[id]? = some (.cells vs e wr .row)
theorem Own.rx {H : AHeap} {e : Nat} {x : Value} {o : Option Nat} {n : Nat} {cs : List Value} (h : Own H e 1 x o n cs) : RX H e x n o cs := by
  have h1 := h.1
  have h2 := h.2
  cases o with
  | none => exact ⟨h2.1, List.eq_nil_of_length_eq_zero (by rw [h1, h2.1]), h2.2⟩
  | some id =>
    obtain ⟨a, b, wr, c, d⟩ := h2
    rw [Nat.mul_one] at h1
    rw [h1] at b c
    exact ⟨h1, b, wr, c, d⟩
theorem OwnE.rx {H : AHeap} {e n b : Nat} {x : Value} {cs : List Value} (h : OwnE H e x n cs b) : ∃ o, RX H e x n o cs ∧ ∀ id, o = some id → b ≤ id := by
  rcases h with ⟨o, h, h2⟩ | ⟨rfl, rfl, id, rfl, h1, h⟩
  · exact ⟨o, h.rx, h2⟩
  · exact ⟨some id, ⟨rfl, rfl, 0, Nat.le_refl _, h⟩, fun i e => by cases e; exact h1⟩
theorem RX.stay {H H' : AHeap} {e : Nat} {r : Value} {n : Nat} {o o' : Option Nat} {vs : List Value} (h : RX H e r n o vs) (k : Stay o' H H') (hne : ∀ id, o = some id → o' ≠ some id) : RX H' e r n o vs := by
  cases o with
  | none => exact h
  | some id =>
    obtain ⟨a, b, wr, c, d⟩ := h
    exact ⟨a, b, wr, c, by rw [k.2 id (List.getElem?_eq_some_iff.1 d).1 (hne id rfl)]; exact d⟩
theorem RX.stayE {H H' : AHeap} {e : Nat} {r : Value} {n : Nat} {o : Option Nat} {vs : List Value} (h : RX H e r n o vs) {p e' wr : Nat} {l : List Value} {md : OMode} (hp : H[p]? = some (.cells l e' wr md)) (hne : e' ≠ e) (k : Stay (some p) H H') : RX H' e r n o vs := by
  refine h.stay k (fun id e1 e2 => ?_)
  have := Option.some.inj e2
  subst this
  subst e1
  obtain ⟨_, _, wr2, _, h2⟩ := h
  rw [hp] at h2
  cases h2
  exact hne rfl
theorem RX.lt {H : AHeap} {e : Nat} {r : Value} {n id : Nat} {vs : List Value} (h : RX H e r n (some id) vs) : id < H.length := by
  obtain ⟨_, _, _, _, h2⟩ := h
  exact (List.getElem?_eq_some_iff.1 h2).1
theorem RX.len {H : AHeap} {e : Nat} {r : Value} {n : Nat} {o : Option Nat} {vs : List Value} (h : RX H e r n o vs) : ∃ a c, r = .slice a n c := by
  cases o with
  | none =>
    obtain ⟨rfl, _, rfl | rfl⟩ := h
    · exact ⟨_, _, rfl⟩
    · exact ⟨_, _, rfl⟩
  | some id => exact ⟨_, _, h.2.1⟩
theorem put_one (L : List Value) {i : Nat} (hi : i < L.length) (v : Value) : putList L i [v] = L.set i v := by
  unfold putList
  rw [List.set_eq_take_append_cons_drop, if_pos hi]
  simp
/-- A mark. -/
theorem RX.set {P : Program} {t e by_ : Nat} (T : ElemT P t e 1 by_) {H : AHeap} {r : Value} {n : Nat} {o : Option Nat} {vs : List Value} (h : RX H e r n o vs) {k : Nat} (hk : k < n) {v : Value} (hv : isCell v = true) {prot : Nat} (hp : ∀ id, o = some id → prot ≤ id) :
    ∃ id H', o = some id ∧ aindexAddr P t r (.int .i64 (k : Nat)) = some (.pointer (some ⟨id, k, some n⟩)) ∧ setCells H prot id n k [v] = some H' ∧ RX H' e r n o (vs.set k v) ∧ Stay (some id) H H' ∧ ∃ l wr, H[id]? = some (.cells l e wr .row) := by
  cases o with
  | none => obtain ⟨rfl, _⟩ := h; omega
  | some id =>
    obtain ⟨a, b, wr, c, d⟩ := h
    have hi : aindexAddr P t r (.int .i64 (k : Nat)) = some (.pointer (some ⟨id, k, some n⟩)) := by
      rw [b]
      unfold aindexAddr
      rw [T.un]
      simp only [T.sz, Option.bind_some]
      rw [if_pos (by omega)]
      simp
    refine ⟨id, H.set id (.cells (vs.set k v) e n .row), rfl, hi, ?_, ⟨by rw [List.length_set]; exact a, b, n, Nat.le_refl _, List.getElem?_set_self (List.getElem?_eq_some_iff.1 d).1⟩, set_stay, _, _, d⟩
    unfold setCells
    rw [d]
    simp only
    rw [if_pos ⟨rfl, hp id rfl, a.symm, by simp; omega, by simp [hv]⟩, put_one vs (by omega)]
/-- One more at the end: what was written stays. -/
theorem app_wr {P : Program} {t e by_ : Nat} (T : ElemT P t e 1 by_) {H : AHeap} {id n wr : Nat} {vs : List Value} (hH : H[id]? = some (.cells vs e wr .row)) (hl : vs.length = n) {v : Value} (hv : isCell v = true) {prot : Nat} (hp : prot ≤ id) {room : Bool} (hroom : (n + 1) * by_ ≤ 140737488355328) {L : Nat} (hL : L = 1) {el : Nat} (hel : el = 1) :
    aappend P prot room t t (.slice (some ⟨id, 0, some n⟩) n n) (.slice (some ⟨H.length, 0, some L⟩) 1 1) (H ++ [.cells [v] e el .row]) = some (.slice (some ⟨id, 0, some (n + 1)⟩) (n + 1) (n + 1), (H ++ [AObj.cells [v] e el .row]).set id (AObj.cells (vs ++ [v]) e wr .row)) := by
  subst hL; subst hel
  obtain ⟨z, hz, hzl⟩ := T.ze
  have hlt := (List.getElem?_eq_some_iff.1 hH).1
  have hH' : (H ++ [AObj.cells [v] e 1 .row])[id]? = some (.cells vs e wr .row) := by rw [List.getElem?_append_left hlt]; exact hH
  have hsrc : srcCells P 1 t (.slice (some ⟨H.length, 0, some 1⟩) 1 1) (H ++ [AObj.cells [v] e 1 .row]) = some (1, [v]) := by
    unfold srcCells
    rw [T.un]
    simp only [cellsAt]
    unfold getCells
    rw [append_get.1]
    simp
  unfold aappend
  rw [T.sl, Option.bind_some, T.sz, Option.bind_some, T.bt, Option.bind_some, hz, Option.bind_some, if_pos ⟨rfl, by omega, T.b0, hzl⟩, hsrc, Option.bind_some]
  dsimp only
  rw [if_pos ⟨rfl, by simp [hv]⟩]
  simp only [Nat.one_ne_zero, if_false]
  rw [if_neg (by omega), hH']
  simp only [OMode.isRow, true_and]
  rw [if_pos ⟨hp, hl.symm, by omega, hroom⟩]
  simp

/-- A row and what it has grown to. -/
structure GK (H : AHeap) (e : Nat) (r g : Value) (n k : Nat) (o o' : Option Nat) (vs ws : List Value) : Prop where
  rl : ∃ a c, r = .slice a n c
  vl : vs.length = n
  wl : ws.length = k
  old : ∀ a, o = some a → o' = some a
  z : o = none → n = 0
  gl : (o' = none ∧ k = 0 ∧ (g = .slice none 0 0 ∨ g = emptySlice)) ∨ ∃ id wr, o' = some id ∧ g = .slice (some ⟨id, 0, some (n + k)⟩) (n + k) (n + k) ∧ wr ≤ n + k ∧ H[id]? = some (.cells (vs ++ ws) e wr .row) ∧ (0 < n → wr ≤ n ∧ r = .slice (some ⟨id, 0, some n⟩) n n)
theorem RX.gk {H : AHeap} {e : Nat} {r : Value} {n : Nat} {o : Option Nat} {vs : List Value} (h : RX H e r n o vs) : GK H e r r n 0 o o vs [] := by
  refine ⟨h.len, ?_, rfl, fun _ h => h, fun ho => ?_, ?_⟩
  · cases o with
    | none => obtain ⟨rfl, rfl, _⟩ := h; rfl
    | some id => exact h.1
  · subst ho; exact h.1
  · cases o with
    | none => exact .inl ⟨rfl, rfl, h.2.2⟩
    | some id =>
      obtain ⟨a, b, wr, c, d⟩ := h
      exact .inr ⟨id, wr, rfl, b, c, by rw [List.append_nil]; exact d, fun _ => ⟨c, b⟩⟩
theorem GK.stay {H H' : AHeap} {e : Nat} {r g : Value} {n k : Nat} {o o' p : Option Nat} {vs ws : List Value} (h : GK H e r g n k o o' vs ws) (s : Stay p H H') (hne : ∀ id, o' = some id → p ≠ some id) : GK H' e r g n k o o' vs ws := by
  refine ⟨h.rl, h.vl, h.wl, h.old, h.z, ?_⟩
  rcases h.gl with h | ⟨id, wr, a, b, c, d, f⟩
  · exact .inl h
  · exact .inr ⟨id, wr, a, b, c, by rw [s.2 id (List.getElem?_eq_some_iff.1 d).1 (hne id a)]; exact d, f⟩
theorem GK.stayE {H H' : AHeap} {e : Nat} {r g : Value} {n k : Nat} {o o' : Option Nat} {vs ws : List Value} (h : GK H e r g n k o o' vs ws) {p e' wr : Nat} {l : List Value} {md : OMode} (hp : H[p]? = some (.cells l e' wr md)) (hne : e' ≠ e) (s : Stay (some p) H H') : GK H' e r g n k o o' vs ws := by
  refine h.stay s (fun id e1 e2 => ?_)
  have := Option.some.inj e2
  subst this
  rcases h.gl with ⟨h1, _⟩ | ⟨id2, wr2, a, b, c, d, f⟩
  · rw [h1] at e1; cases e1
  · rw [e1] at a
    cases a
    rw [hp] at d
    cases d
    exact hne rfl
/-- It grows. -/
theorem GK.app {P : Program} {t e by_ : Nat} (T : ElemT P t e 1 by_) {H : AHeap} {r g : Value} {n k : Nat} {o o' : Option Nat} {vs ws : List Value} (h : GK H e r g n k o o' vs ws) {v : Value} (hv : isCell v = true) {prot : Nat} (hp : ∀ id, o' = some id → prot ≤ id) (hB : prot ≤ H.length) (hroom : (n + k + 1) * by_ ≤ 140737488355328) {L : Nat} (hL : L = 1) {el : Nat} (hel : el = 1) :
    ∃ id H', aappend P prot true t t g (.slice (some ⟨H.length, 0, some L⟩) 1 1) (H ++ [.cells [v] e el .row]) = some (.slice (some ⟨id, 0, some (n + (k + 1))⟩) (n + (k + 1)) (n + (k + 1)), H') ∧ GK H' e r (.slice (some ⟨id, 0, some (n + (k + 1))⟩) (n + (k + 1)) (n + (k + 1))) n (k + 1) o (some id) vs (ws ++ [v]) ∧ Stay o' H H' ∧ (∀ i, o' = some i → id = i) ∧ (o' = none → H.length ≤ id) := by
  rcases h.gl with ⟨rfl, rfl, hg⟩ | ⟨id, wr, rfl, rfl, c, d, f⟩
  · have ho : o = none := by
      cases ho : o with
      | none => rfl
      | some a => have := h.old a ho; cases this
    have hn := h.z ho
    have hvs : vs = [] := List.eq_nil_of_length_eq_zero (by rw [h.vl, hn])
    have hws : ws = [] := List.eq_nil_of_length_eq_zero h.wl
    subst hvs; subst hws; subst hn
    have h0 : Own H e 1 g none 0 [] := ⟨rfl, rfl, hg⟩
    obtain ⟨a', c', id, H', q1, q2, q3, q4, q5, q6⟩ := own_app T h0 (ecs := [v]) rfl (by simp [hv]) (prot := prot) (room := true) (fun id h => by cases h) hB (by omega) hL (el := el) hel
    obtain ⟨_, _, q7, wr, q8, q9⟩ := q2
    have e1 : ([] ++ [v] : List Value).length = 1 := rfl
    rw [e1] at q7 q8
    rw [Nat.zero_add] at q7
    rw [q7] at q1
    refine ⟨id, H', q1, ⟨h.rl, rfl, rfl, fun a ha => (by rw [ho] at ha; cases ha), h.z, .inr ⟨id, wr, rfl, rfl, q8, q9, fun hh => (by omega)⟩⟩, q3, fun i e => (by cases e), fun _ => q5 rfl⟩
  · have hl : (vs ++ ws).length = n + k := by rw [List.length_append, h.vl, h.wl]
    have ha := app_wr T d hl hv (hp id rfl) (room := true) hroom hL hel
    have hlt := (List.getElem?_eq_some_iff.1 d).1
    refine ⟨id, _, ha, ⟨h.rl, h.vl, by rw [List.length_append, h.wl]; rfl, h.old, h.z, .inr ⟨id, wr, rfl, rfl, by omega, ?_, f⟩⟩, (Stay.app (some id) H _).trans set_stay, fun i e => (by cases e; rfl), fun e => (by cases e)⟩
    rw [List.getElem?_set_self (by simp; omega), List.append_assoc]
theorem GK.rd {H : AHeap} {e : Nat} {r g : Value} {n k : Nat} {o o' : Option Nat} {vs ws : List Value} (h : GK H e r g n k o o' vs ws) : Rd H e 1 g (n + k) (vs ++ ws) ∧ (0 < n → Rd H e 1 r n vs) := by
  have hl : (vs ++ ws).length = n + k := by rw [List.length_append, h.vl, h.wl]
  rcases h.gl with ⟨h1, rfl, hg⟩ | ⟨id, wr, h1, rfl, c, d, f⟩
  · have hn : n = 0 := by
      cases ho : o with
      | none => exact h.z ho
      | some a => have := h.old a ho; rw [h1] at this; cases this
    have hvs : vs = [] := List.eq_nil_of_length_eq_zero (by rw [h.vl, hn])
    have hws : ws = [] := List.eq_nil_of_length_eq_zero h.wl
    subst hn; subst hvs; subst hws
    exact ⟨⟨rfl, .inl ⟨rfl, hg⟩⟩, fun hh => by omega⟩
  · refine ⟨⟨by rw [hl]; omega, .inr ⟨id, n + k, wr, .row, _, vs ++ ws, rfl, c, by omega, by omega, d, by rw [List.take_of_length_le (by omega)]⟩⟩, fun hn => ?_⟩
    obtain ⟨f1, f2⟩ := f hn
    have := h.vl
    exact ⟨by omega, .inr ⟨id, n, wr, .row, _, vs ++ ws, f2, f1, by omega, by omega, d, by rw [List.take_append_of_le_length (by omega), List.take_of_length_le (by omega)]⟩⟩
theorem GK.lt {H : AHeap} {e : Nat} {r g : Value} {n k : Nat} {o : Option Nat} {id : Nat} {vs ws : List Value} (h : GK H e r g n k o (some id) vs ws) : id < H.length := by
  rcases h.gl with ⟨h1, _⟩ | ⟨id2, wr, a, b, c, d, f⟩
  · cases h1
  · cases a
    exact (List.getElem?_eq_some_iff.1 d).1
theorem GK.glen {H : AHeap} {e : Nat} {r g : Value} {n k : Nat} {o o' : Option Nat} {vs ws : List Value} (h : GK H e r g n k o o' vs ws) : ∃ a c, g = .slice a (n + k) c := by
  have h0 := h.rd.1.len
  exact h0
end Go.Proofs.Ytkemihfaohkoeaa.Am
set_option linter.unusedVariables false
open Go Go.Proofs.Ytkemihfaohkoeaa.Am
namespace Go.Proofs.Ytkemihfaohkoeaa.Am11
end Go.Proofs.Ytkemihfaohkoeaa.Am11
namespace Go.Proofs.Ytkemihfaohkoeaa.Am11
open Go Go.Proofs.Ytkemihfaohkoeaa.Am
/-- All on a cycle. -/
noncomputable def lps (G : List (List Int)) : Nat → Bool := fun x => @decide (x < G.length ∧ Rch G x x) (Classical.propDecidable _)
/-- What Loops answers. -/
noncomputable def loopsV (G : List (List Int)) : (Nat → Bool) × Int := if chk G ≠ 0 then (noS, chk G) else (lps G, 0)
end Go.Proofs.Ytkemihfaohkoeaa.Am11
namespace Go.Proofs.Ytkemihfaohkoeaa.Am
open Go

theorem apure_pure {α : Type} (P : Program) (a : α) : apure P (pure a : Sem α) = some a := rfl
theorem apure_underlying {P : Program} {t : TypeId} {d : TypeDesc} (h : P.underlying t = some d) : apure P (underlying t) = some d := by
  unfold underlying
  rw [apure_bind]
  show (some P).bind _ = _
  rw [Option.bind_some, h]
  rfl

def runFold (P : Program) {α β : Type} (f : α → β → Sem (ForInStep β)) : List α → β → Option β
  | [], b => some b
  | a :: l, b => (apure P (f a b)).bind fun r =>
    match r with
    | .done b => some b
    | .yield b => runFold P f l b
theorem apure_forIn {α β : Type} (P : Program) (f : α → β → Sem (ForInStep β)) : ∀ (l : List α) (b : β), apure P (forIn l b f) = runFold P f l b
  | [], b => by simp [apure_pure, runFold]
  | a :: l, b => by
    rw [List.forIn_cons, apure_bind]
    simp only [runFold]
    congr 1
    funext r
    cases r with
    | done b => rfl
    | yield b => exact apure_forIn P f l b

theorem apure_int {P : Program} {e : TypeId} {q : IntKind} (he : P.underlying e = some (.int q)) (d : Nat) (a b : Int) : apure P (Op.equalIn (d + 1) e (.int q a) (.int q b)) = some (a == b) := by
  simp only [Op.equalIn, apure_bind, apure_underlying he, Option.bind_some]
  rw [if_pos trivial]
  rfl

theorem apure_part {P : Program} {e : TypeId} {q : IntKind} (he : P.underlying e = some (.int q)) (xs : List Int) {i : Nat} {a : Int} (ha : xs[i]? = some a) : apure P (part e (xs.map (Value.int q)).toArray (i * 1)) = some (.int q a) := by
  have hag : apure P (isAgg e) = some false := by
    unfold isAgg
    simp only [apure_bind, apure_underlying he, Option.bind_some]
    rfl
  unfold part
  simp only [apure_bind, hag, Option.bind_some]
  simp [ha, apure_pure]

def stepEq (P : Program) (e : TypeId) (q : IntKind) (d : Nat) (xs ys : List Int) (i : Nat) : Sem (ForInStep (Option Bool × Unit)) := do
  let a ← part e (xs.map (Value.int q)).toArray (i * 1)
  let b ← part e (ys.map (Value.int q)).toArray (i * 1)
  let r ← Op.equalIn (d + 1) e a b
  if (!r) = true then pure (ForInStep.done (some false, ())) else pure (ForInStep.yield (none, ()))

theorem apure_stepEq {P : Program} {e : TypeId} {q : IntKind} (he : P.underlying e = some (.int q)) (d : Nat) (xs ys : List Int) {i : Nat} {a b : Int} (ha : xs[i]? = some a) (hb : ys[i]? = some b) :
    apure P (stepEq P e q d xs ys i) = some (if a = b then .yield (none, ()) else .done (some false, ())) := by
  unfold stepEq
  simp only [apure_bind, apure_part he xs ha, apure_part he ys hb, apure_int he, Option.bind_some]
  by_cases h : a = b
  · subst h; simp [apure_pure]
  · simp [h, apure_pure]

theorem fold_eq {P : Program} {e : TypeId} {q : IntKind} (he : P.underlying e = some (.int q)) (d : Nat) (xs ys : List Int) : ∀ (m i : Nat), i + m = xs.length → i + m = ys.length →
    runFold P (fun i (_ : Option Bool × Unit) => stepEq P e q d xs ys i) (List.range' i m) (none, ()) = some (if xs.drop i = ys.drop i then (none, ()) else (some false, ()))
  | 0, i, h1, h2 => by
    rw [List.drop_of_length_le (by omega), List.drop_of_length_le (by omega)]
    simp [runFold]
  | m + 1, i, h1, h2 => by
    have hx : i < xs.length := by omega
    have hy : i < ys.length := by omega
    simp only [List.range'_succ, runFold]
    rw [apure_stepEq he d xs ys (List.getElem?_eq_getElem hx) (List.getElem?_eq_getElem hy), Option.bind_some]
    rw [List.drop_eq_getElem_cons hx, List.drop_eq_getElem_cons hy]
    by_cases h : xs[i] = ys[i]
    · rw [if_pos h]
      simp only
      rw [fold_eq he d xs ys m (i + 1) (by omega) (by omega), h]
      simp only [List.cons.injEq, true_and]
    · rw [if_neg h, if_neg (fun hh => h (by injection hh))]

theorem apure_equal_arr {P : Program} {t e : TypeId} {n : Nat} {q : IntKind} (hu : P.underlying t = some (.array n e)) (he : P.underlying e = some (.int q)) (hs : apure P (sizeOf e) = some 1) (d : Nat) (xs ys : List Int) (hx : xs.length = n) (hy : ys.length = n) :
    apure P (Op.equalIn (d + 2) t (.agg (xs.map (Value.int q)).toArray) (.agg (ys.map (Value.int q)).toArray)) = some (decide (xs = ys)) := by
  unfold Op.equalIn
  simp only [apure_bind, apure_underlying hu, hs, Option.bind_some]
  rw [Std.Legacy.Range.forIn_eq_forIn_range']
  have hstep : ∀ i : Nat, (fun (__s : Option Bool × Unit) => (do
            let a ← part e (List.map (Value.int q) xs).toArray (i * 1)
            let b ← part e (List.map (Value.int q) ys).toArray (i * 1)
            let r ← Op.equalIn (d + 1) e a b
            if (!r) = true then pure (ForInStep.done (some false, ()))
              else pure (ForInStep.yield (none, ())) : Sem (ForInStep (Option Bool × Unit)))) = fun _ => stepEq P e q d xs ys i := fun i => rfl
  have hz : (Std.Legacy.Range.size [:n]) = n := by simp [Std.Legacy.Range.size]
  rw [hz]
  have h2 := fold_eq he d xs ys n 0 (by omega) (by omega)
  have := (apure_forIn P (fun i (_ : Option Bool × Unit) => stepEq P e q d xs ys i) (List.range' 0 n) (none, ())).trans h2
  have h3 : apure P (forIn (List.range' 0 n) ((none : Option Bool), ()) fun i (__s : Option Bool × Unit) => (do
            let a ← part e (List.map (Value.int q) xs).toArray (i * 1)
            let b ← part e (List.map (Value.int q) ys).toArray (i * 1)
            let r ← Op.equalIn (d + 1) e a b
            if (!r) = true then pure (ForInStep.done (some false, ()))
              else pure (ForInStep.yield (none, ())) : Sem (ForInStep (Option Bool × Unit)))) = _ := this
  rw [h3, Option.bind_some, List.drop_zero, List.drop_zero]
  by_cases h : xs = ys
  · subst h; simp [apure_pure]
  · simp [h, apure_pure]

/-! ### Arrays of whole numbers as keys -/
def keyV (q : IntKind) (xs : List Int) : Value := .agg (xs.map (Value.int q)).toArray

def stepCk (emp : Bool) (e : TypeId) (q : IntKind) (d : Nat) (xs : List Int) (i : Nat) : Sem (ForInStep Unit) := do
  let n ← sizeOf e
  let a ← part e (xs.map (Value.int q)).toArray (i * n)
  Instr.checkKey emp (d + 1) e a
  pure (ForInStep.yield ())
def kidx (xs : List Int) (ks : List (List Int)) : Option Nat := ks.findIdx? fun y => decide (xs = y)

end Go.Proofs.Ytkemihfaohkoeaa.Am
set_option linter.unusedVariables false
open Go Go.Proofs.Ytkemihfaohkoeaa.Am
namespace Go.Proofs.Ytkemihfaohkoeaa.Am11
end Go.Proofs.Ytkemihfaohkoeaa.Am11
set_option linter.unusedVariables false
open Go Go.Proofs.Ytkemihfaohkoeaa.Am
namespace Go.Proofs.Ytkemihfaohkoeaa.Am11
end Go.Proofs.Ytkemihfaohkoeaa.Am11
namespace Go.Proofs.Ytkemihfaohkoeaa.Am11
open Go Go.Proofs.Ytkemihfaohkoeaa.Am
theorem setA_map (S : Nat → Bool) : setA S = (((List.range 8).map fun w => ((wordS S w : Nat) : Int)).map (Value.int .u64)).toArray := by
  unfold setA setL
  rw [List.map_map]
  rfl
theorem aeq39 (S : Nat → Bool) : aeq cfg.P 39 (.agg (setA S)) (.agg (setA S)) = some true := by
  unfold aeq
  have hu : cfg.P.underlying 39 = some (.array 8 37) := by kernel_rfl
  have he : cfg.P.underlying 37 = some (.int .u64) := by kernel_rfl
  have hg : cfg.P.eqGuardType cfg.P.depth 39 = false := by kernel_rfl
  have hs : apure cfg.P (sizeOf 37) = some 1 := by kernel_rfl
  rw [hu]
  simp only [setA_plain, hg, Bool.not_false, Bool.and_self, if_true]
  rw [setA_map]
  have h := apure_equal_arr hu he hs 9998 ((List.range 8).map fun w => ((wordS S w : Nat) : Int)) ((List.range 8).map fun w => ((wordS S w : Nat) : Int)) (by simp) (by simp)
  rw [decide_eq_true rfl] at h
  exact h
theorem ne39 (S : Nat → Bool) : abin cfg.P BinOp.neq 39 (.agg (setA S)) (.agg (setA S)) = some (.bool false) := by
  unfold abin
  simp only [aeq39, Option.map_some]
  rfl

theorem rfS_one (G : List (List Int)) (v : Nat) : rfS G [v] = rs G v := by
  funext x
  rw [Bool.eq_iff_iff, rfS_iff, rs_iff]
  unfold RF
  simp
end Go.Proofs.Ytkemihfaohkoeaa.Am11
set_option linter.unusedVariables false
open Go Go.Proofs.Ytkemihfaohkoeaa.Am
namespace Go.Proofs.Ytkemihfaohkoeaa.Am11
end Go.Proofs.Ytkemihfaohkoeaa.Am11
namespace Go.Proofs.Ytkemihfaohkoeaa.Am11
open Go Go.Proofs.Ytkemihfaohkoeaa.Am
/-- Lists leave room for two more. -/
def Short8 (G : List (List Int)) : Prop := G.length * 24 + 48 ≤ 140737488355328 ∧ ∀ l ∈ G, l.length * 8 + 16 ≤ 140737488355328
theorem Short8.short {G : List (List Int)} (h : Short8 G) : Short G := fun l hl => by have := h.2 l hl; omega
def wrapI (n : Nat) (x : Int) : Int := (x.tmod n + n).tmod n
/-- A graph out of any lists. -/
def wit (G : List (List Int)) : List (List Int) := (G.take 512).map fun l => l.map (wrapI (min 512 G.length))
end Go.Proofs.Ytkemihfaohkoeaa.Am11
set_option linter.unusedVariables false
open Go Go.Proofs.Ytkemihfaohkoeaa.Am
namespace Go.Proofs.Ytkemihfaohkoeaa.Am11
end Go.Proofs.Ytkemihfaohkoeaa.Am11
set_option linter.unusedVariables false
open Go Go.Proofs.Ytkemihfaohkoeaa.Am
namespace Go.Proofs.Ytkemihfaohkoeaa.Am11
theorem f13_F_0 {x0 : Int} {H : AHeap} {prot : Nat}  : callInf cfg 13 [.int .i64 x0] prot H = some (Value.int .i64 x0, H) :=
  fn_of2 a13 [] (Eq.refl ((Value.int .i64 x0, H) : Value × AHeap)) (by kernel_rfl) rfl
end Go.Proofs.Ytkemihfaohkoeaa.Am11
namespace Go.Proofs.Ytkemihfaohkoeaa.Am11
open Go Go.Proofs.Ytkemihfaohkoeaa.Am
theorem cKnows (prot : Nat) (H : AHeap) : callInf cfg 16 [] prot H = some (.bool true, H) := by
  refine callInf_body ?_
  unfold callWith
  have h : cfg.code 16 = some a16 := rfl
  rw [h]
  rfl
/-! ### Numbers of components -/
def Mu (G : List (List Int)) (u v : Nat) : Prop := Rch G u v ∧ Rch G v u
theorem Mu.symm {G : List (List Int)} {u v : Nat} (h : Mu G u v) : Mu G v u := ⟨h.2, h.1⟩
theorem Mu.trans {G : List (List Int)} {u v w : Nat} (h : Mu G u v) (k : Mu G v w) : Mu G u w := ⟨h.1.trans k.1, k.2.trans h.2⟩
theorem mu_Mu {G : List (List Int)} {u v : Nat} : mu G u v = true ↔ Mu G u v := mu_iff
/-- Numbers rise by one at most. -/
def pr : List Nat → Nat → Option Nat
  | [], m => some m
  | x :: l, m => if x ≤ m then pr l (max m (x + 1)) else none
theorem pr_snoc {x n : Nat} (hx : x ≤ n) : ∀ (l : List Nat) (m : Nat), pr l m = some n → pr (l ++ [x]) m = some (max n (x + 1))
  | [], m, h => by
    simp only [pr, Option.some.injEq] at h
    subst h
    simp [pr, hx]
  | y :: l, m, h => by
    rw [List.cons_append, pr]
    rw [pr] at h
    split at h
    · rename_i hy
      rw [if_pos hy]
      exact pr_snoc hx l _ h
    · cases h
structure NI (G : List (List Int)) (v : Nat) (out : List Nat) (n : Nat) : Prop where
  l : out.length = v
  b : ∀ i, i < v → out.getD i 0 < n
  e : ∀ u w, u < v → w < v → (out.getD u 0 = out.getD w 0 ↔ u = w ∨ Mu G u w)
  p : pr out 0 = some n
theorem getD_snoc {out : List Nat} {x i : Nat} : (out ++ [x]).getD i 0 = if i = out.length then x else out.getD i 0 := by
  by_cases h : i < out.length
  · rw [if_neg (by omega), List.getD_eq_getElem?_getD, List.getElem?_append_left h, ← List.getD_eq_getElem?_getD]
  · by_cases h2 : i = out.length
    · subst h2; simp [List.getD_eq_getElem?_getD]
    · rw [if_neg h2, List.getD_eq_getElem?_getD, List.getD_eq_getElem?_getD, List.getElem?_eq_none (by simp; omega), List.getElem?_eq_none (by omega)]
theorem numR_ok {G : List (List Int)} : ∀ (d v : Nat) (out : List Nat) (n : Nat), NI G v out n → NI G (v + d) (numR G d v out n).1 (numR G d v out n).2
  | 0, v, out, n, h => h
  | d + 1, v, out, n, h => by
    rw [numR, show v + (d + 1) = v + 1 + d by omega]
    cases hf : findM (mu G v) v 0 with
    | some u =>
      obtain ⟨_, hu, hm⟩ := findM_some hf
      have hmu := mu_Mu.1 hm
      have hul : u < v := by omega
      refine numR_ok d (v + 1) _ n ⟨by simp [h.l], fun i hi => ?_, fun a c ha hc => ?_, ?_⟩
      · rw [getD_snoc, h.l]
        split
        · exact h.b u hul
        · exact h.b i (by omega)
      · have new : ∀ w, w < v → (out.getD w 0 = out.getD u 0 ↔ Mu G w v) := fun w hw => by
          rw [h.e w u hw hul]
          constructor
          · rintro (rfl | h1)
            · exact hmu.symm
            · exact h1.trans hmu.symm
          · intro h1
            by_cases e : w = u
            · exact .inl e
            · exact .inr (h1.trans hmu)
        rw [getD_snoc, getD_snoc, h.l]
        by_cases e1 : a = v
        · by_cases e2 : c = v
          · rw [if_pos e1, if_pos e2]; simp [e1, e2]
          · rw [if_pos e1, if_neg e2]
            have := new c (by omega)
            subst e1
            constructor
            · intro h1; exact .inr (this.1 h1.symm).symm
            · rintro (h1 | h1)
              · exact absurd h1.symm e2
              · exact (this.2 h1.symm).symm
        · by_cases e2 : c = v
          · rw [if_neg e1, if_pos e2]
            have := new a (by omega)
            subst e2
            constructor
            · intro h1; exact .inr (this.1 h1)
            · rintro (h1 | h1)
              · exact absurd h1 e1
              · exact this.2 h1
          · rw [if_neg e1, if_neg e2]
            exact h.e a c (by omega) (by omega)
      · have hb := h.b u hul
        have := pr_snoc (Nat.le_of_lt hb) out 0 h.p
        rw [Nat.max_eq_left (by omega)] at this
        exact this
    | none =>
      have hno : ∀ w, w < v → ¬ Mu G v w := fun w hw hm => by
        have := findM_none hf w (Nat.zero_le _) (by omega)
        rw [mu_Mu.2 hm] at this
        cases this
      refine numR_ok d (v + 1) _ (n + 1) ⟨by simp [h.l], fun i hi => ?_, fun a c ha hc => ?_, ?_⟩
      · rw [getD_snoc, h.l]
        split
        · omega
        · have := h.b i (by omega); omega
      · rw [getD_snoc, getD_snoc, h.l]
        by_cases e1 : a = v
        · by_cases e2 : c = v
          · rw [if_pos e1, if_pos e2]; simp [e1, e2]
          · rw [if_pos e1, if_neg e2]
            have := h.b c (by omega)
            subst e1
            constructor
            · intro h1; omega
            · rintro (h1 | h1)
              · exact absurd h1.symm e2
              · exact absurd h1 (hno c (by omega))
        · by_cases e2 : c = v
          · rw [if_neg e1, if_pos e2]
            have := h.b a (by omega)
            subst e2
            constructor
            · intro h1; omega
            · rintro (h1 | h1)
              · exact absurd h1 e1
              · exact absurd h1.symm (hno a (by omega))
          · rw [if_neg e1, if_neg e2]
            exact h.e a c (by omega) (by omega)
      · have := pr_snoc (Nat.le_refl n) out 0 h.p
        rw [Nat.max_eq_right (by omega)] at this
        exact this
theorem comp_ok (G : List (List Int)) : NI G G.length (comp G).1 (comp G).2 := by
  have := numR_ok (G := G) G.length 0 [] 0 ⟨rfl, fun i h => by omega, fun u w h => by omega, rfl⟩
  rw [Nat.zero_add] at this
  exact this

/-! ### The graph that is made -/
end Go.Proofs.Ytkemihfaohkoeaa.Am11
namespace Go.Proofs.Ytkemihfaohkoeaa.Am11
open Go Go.Proofs.Ytkemihfaohkoeaa.Am
/-! Components and what they reach. -/
def RQ (G : List (List Int)) (v u : Nat) : Prop := u = v ∨ Rch G v u
theorem RQ.trans {G : List (List Int)} {a b c : Nat} (h : RQ G a b) (k : RQ G b c) : RQ G a c := by
  rcases h with rfl | h
  · exact k
  · rcases k with rfl | k
    · exact .inr h
    · exact .inr (h.trans k)
noncomputable def Lc (G : List (List Int)) (v : Nat) : Nat := (comp G).1.getD v 0
theorem pr_le : ∀ (l : List Nat) (m n : Nat), pr l m = some n → n ≤ m + l.length
  | [], m, n, h => by simp only [pr, Option.some.injEq] at h; simp; omega
  | y :: l, m, n, h => by
    rw [pr] at h
    split at h
    · have := pr_le l _ _ h; simp; omega
    · cases h
theorem comp_n (G : List (List Int)) : (comp G).2 ≤ G.length := by
  have h := comp_ok G
  have := pr_le _ _ _ h.p
  rw [h.l] at this
  omega
theorem Lc_lt {G : List (List Int)} {v : Nat} (hv : v < G.length) : Lc G v < (comp G).2 := (comp_ok G).b v hv
theorem Lc_eq {G : List (List Int)} {u v : Nat} (hu : u < G.length) (hv : v < G.length) : Lc G u = Lc G v ↔ u = v ∨ Mu G u v := (comp_ok G).e u v hu hv
theorem Lc_RQ {G : List (List Int)} {u v : Nat} (hu : u < G.length) (hv : v < G.length) (h : Lc G u = Lc G v) : RQ G u v := by
  rcases (Lc_eq hu hv).1 h with rfl | h
  · exact .inl rfl
  · exact .inr h.1
/-- A component reaches a component. -/
def Abv (G : List (List Int)) (c d : Nat) : Prop := ∃ v u, v < G.length ∧ u < G.length ∧ Lc G v = c ∧ Lc G u = d ∧ RQ G v u
theorem Abv.trans {G : List (List Int)} {c d i : Nat} (h : Abv G c d) (k : Abv G d i) : Abv G c i := by
  obtain ⟨v, u, hv, hu, h1, h2, h3⟩ := h
  obtain ⟨w, x, hw, hx, k1, k2, k3⟩ := k
  exact ⟨v, x, hv, hx, h1, k2, (h3.trans (Lc_RQ hu hw (by rw [h2, k1]))).trans k3⟩
noncomputable def abv (G : List (List Int)) (c d : Nat) : Bool := @decide (Abv G c d) (Classical.propDecidable _)
theorem abv_iff {G : List (List Int)} {c d : Nat} : abv G c d = true ↔ Abv G c d := by unfold abv; exact @decide_eq_true_iff _ (Classical.propDecidable _)
end Go.Proofs.Ytkemihfaohkoeaa.Am11
namespace Go.Proofs.Ytkemihfaohkoeaa.Am
open Go
/-! Lists of sets of eight words. -/
def sets (A : Nat → Nat → Bool) (n : Nat) : List Value := (List.range n).flatMap fun c => setL (A c)
theorem sets_succ (A : Nat → Nat → Bool) (n : Nat) : sets A (n + 1) = sets A n ++ setL (A n) := by
  unfold sets
  rw [List.range_succ, List.flatMap_append]
  simp
theorem sets_len (A : Nat → Nat → Bool) : ∀ n, (sets A n).length = n * 8
  | 0 => rfl
  | n + 1 => by rw [sets_succ, List.length_append, sets_len A n, setL_len]; omega
theorem sets_plain (A : Nat → Nat → Bool) : ∀ n, (sets A n).all plain0 = true
  | 0 => rfl
  | n + 1 => by rw [sets_succ, List.all_append, sets_plain A n, setL_plain]; rfl
theorem sets_congr {A B : Nat → Nat → Bool} : ∀ n, (∀ c, c < n → ∀ i, i < 512 → A c i = B c i) → sets A n = sets B n
  | 0, _ => rfl
  | n + 1, h => by rw [sets_succ, sets_succ, sets_congr n (fun c hc => h c (by omega)), setL_congr (h n (by omega))]
theorem sets_get (A : Nat → Nat → Bool) {i : Nat} : ∀ n, i < n → ((sets A n).drop (i * 8)).take 8 = setL (A i)
  | 0, h => by omega
  | n + 1, h => by
    have hl := sets_len A n
    rw [sets_succ]
    by_cases e : i = n
    · subst e
      rw [List.drop_append_of_le_length (by omega), List.drop_of_length_le (by omega), List.nil_append, List.take_of_length_le (by rw [setL_len]; omega)]
    · rw [List.drop_append_of_le_length (by omega), List.take_append_of_le_length (by rw [List.length_drop]; omega)]
      exact sets_get A n (by omega)
theorem sets_put (A : Nat → Nat → Bool) (T : Nat → Bool) {i : Nat} : ∀ n, i < n → putList (sets A n) (i * 8 + 0) (setL T) = sets (fun c => if c = i then T else A c) n
  | 0, h => by omega
  | n + 1, h => by
    have hl := sets_len A n
    have hT := setL_len T
    rw [sets_succ, sets_succ]
    by_cases e : i = n
    · subst e
      unfold putList
      rw [if_pos rfl, List.take_append_of_le_length (by omega), List.take_of_length_le (by omega), List.drop_of_length_le (by rw [List.length_append, setL_len]; omega), List.append_nil]
      congr 1
      exact sets_congr i (fun c hc j _ => by rw [if_neg (by omega)])
    · have ih := sets_put A T n (show i < n by omega)
      rw [← ih, if_neg (by omega)]
      unfold putList
      rw [List.take_append_of_le_length (by omega), List.drop_append_of_le_length (by omega)]
      simp [List.append_assoc]
theorem repCells_snoc (z : List Value) : ∀ n, repCells z (n + 1) = repCells z n ++ z
  | 0 => by simp [repCells]
  | n + 1 => by
    show z ++ repCells z (n + 1) = (z ++ repCells z n) ++ z
    rw [repCells_snoc z n, List.append_assoc]
theorem sets_no : ∀ n, sets (fun _ => noS) n = repCells (List.replicate 8 (.int .u64 0)) n
  | 0 => by simp [sets, repCells]
  | n + 1 => by rw [sets_succ, sets_no n, setL_no, repCells_snoc]

/-- A row of one's own, it may be empty. -/
def OwnS (H : AHeap) (e s : Nat) (x : Value) (n : Nat) (cs : List Value) (b : Nat) : Prop :=
  (∃ o, Own H e s x o n cs ∧ ∀ id, o = some id → b ≤ id) ∨ (n = 0 ∧ cs = [] ∧ ∃ id, x = .slice (some ⟨id, 0, some 0⟩) 0 0 ∧ b ≤ id ∧ H[id]? = some (.cells [] e 0 .row))
theorem OwnS.rd {H : AHeap} {e s n b : Nat} {x : Value} {cs : List Value} (h : OwnS H e s x n cs b) : Rd H e s x n cs := by
  rcases h with ⟨o, h, _⟩ | ⟨rfl, rfl, id, rfl, _, h⟩
  · exact h.rd
  · exact ⟨by simp, .inr ⟨id, 0, 0, .row, 0, [], rfl, Nat.le_refl _, Nat.le_refl _, by omega, h, by simp⟩⟩
theorem OwnS.weak {H : AHeap} {e s n b c : Nat} {x : Value} {cs : List Value} (h : OwnS H e s x n cs b) (hc : c ≤ b) : OwnS H e s x n cs c := by
  rcases h with ⟨o, h, h2⟩ | ⟨a1, a2, id, a3, h1, h⟩
  · exact .inl ⟨o, h, fun id e => Nat.le_trans hc (h2 id e)⟩
  · exact .inr ⟨a1, a2, id, a3, Nat.le_trans hc h1, h⟩
theorem OwnS.stay {H H' : AHeap} {e s n b : Nat} {x : Value} {cs : List Value} (h : OwnS H e s x n cs b) (k : Stay none H H') : OwnS H' e s x n cs b := by
  rcases h with ⟨o, h, h2⟩ | ⟨rfl, rfl, id, rfl, h1, h⟩
  · exact .inl ⟨o, h.stay k (fun _ _ h => by cases h), h2⟩
  · exact .inr ⟨rfl, rfl, id, rfl, h1, by rw [k.2 id (List.getElem?_eq_some_iff.1 h).1 (by simp)]; exact h⟩
theorem gcS {H H1 : AHeap} {e s n : Nat} {x : Value} {cs : List Value} (h : OwnS H1 e s x n cs H.length) (hp : cs.all plain0 = true) {ps : List Value} (hps : ps.all plain1 = true) :
    ∃ x' H', gc H (x :: ps) H1 = (tupled (x' :: ps), H') ∧ OwnS H' e s x' n cs H.length ∧ Stay none H H' := by
  rcases h with ⟨o, h, h2⟩ | ⟨rfl, rfl, id, rfl, h1, h⟩
  · obtain ⟨x', o', H', g1, g2, g3, g4, _⟩ := gc_row h h2 hp hps
    exact ⟨x', H', g1, .inl ⟨o', g2, g4⟩, g3⟩
  · refine ⟨.slice (some ⟨H.length, 0, some 0⟩) 0 0, H ++ [.cells [] e 0 .row], ?_, .inr ⟨rfl, rfl, H.length, rfl, Nat.le_refl _, append_get.1⟩, Stay.app none H _⟩
    unfold gc
    simp only [gcHeap]
    simp only [sliceIds, sliceIds_plain ps hps, noDup, List.contains_nil, Bool.not_false, Bool.and_self, if_true, keepAll, keep1]
    rw [if_neg (by omega), h]
    simp only
    rw [if_pos ⟨rfl, by simp⟩, Option.bind_some, keepAll_plain ps _ hps]
    simp
end Go.Proofs.Ytkemihfaohkoeaa.Am
