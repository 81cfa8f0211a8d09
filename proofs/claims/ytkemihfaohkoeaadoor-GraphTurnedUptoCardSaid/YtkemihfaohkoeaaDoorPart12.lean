/- A part of the proof of a given statement: AmGrid, AmRd2, AmStr, AmGrow, AmStk, AmArr, AmPw2, P11d_22, P11d_27, S11d_A, S11d_R, P11d_36, P11d_44, S11d_B, P11d_34, P11d_33, P11d_17, S11d_C, S11d_D, P11d_37, P11d_45, P11d_46, P11d_50, P11d_53, P11d_55, P11d_56, P11d_60, P11d_64, P11d_65, P11d_66, P11d_67, S11d_Srt, AmOwnE, AmApart, P11d_13, S11d_X, P11d_23, P11d_29, S11d_Tu, S11d_Tv, AmSet, S11d_E, P11d_43, P11d_49, P11d_35, P11d_20, S11d_F, P11d_19, S11d_G, P11d_42. No condition. -/
import Derived.Test.YtkemihfaohkoeaaDoorPart11
import Derived.Deep.Matrix
namespace Go.Proofs.YtkemihfaohkoeaaDoor.Am
open Go Go.RowKit Go.ChangeShapes Go.WideShapes

/-- A row of memory that is only read: its cells may hold slices. -/
theorem Sim.roV {P : Program} {w0 w : World} {μ : PMap} {H : AHeap} (h : Sim P w0 μ H w) (hnw : ∀ (id : Nat) (o : AObj), H[id]? = some o → writable o = false) {vs : List Value} {e b off : Nat} (hb : b < w.heap.size) (hc : ∀ i v, vs[i]? = some v → ∃ x, w.cell? ⟨b, off + i, none⟩ = some x ∧ VRel μ v x) :
    Sim P w0 (ext1 μ H.length vs.length ⟨b, off, 0, true⟩) (H ++ [.cells vs e vs.length .ro]) w ∧ Sub μ (ext1 μ H.length vs.length ⟨b, off, 0, true⟩) := by
  have hf : ∀ L, μ H.length L = none := fun L => by
    cases hh : μ H.length L with
    | none => rfl
    | some m => have := (h.dom _ _ _ hh).1; omega
  have hsub : Sub μ (ext1 μ H.length vs.length ⟨b, off, 0, true⟩) := ext1_sub (hf _)
  have old : ∀ {id L m}, ext1 μ H.length vs.length ⟨b, off, 0, true⟩ id L = some m → (id = H.length ∧ L = vs.length ∧ m = ⟨b, off, 0, true⟩) ∨ (id ≠ H.length ∧ μ id L = some m) := by
    intro id L m hm
    unfold ext1 at hm
    split at hm
    · rename_i hc; cases hm; exact .inl ⟨hc.1, hc.2, rfl⟩
    · refine .inr ⟨fun e => ?_, hm⟩
      rw [e, hf] at hm
      cases hm
  have hget : ∀ {id o}, (H ++ [AObj.cells vs e vs.length .ro])[id]? = some o → (id < H.length ∧ H[id]? = some o) ∨ (id = H.length ∧ o = .cells vs e vs.length .ro) := by
    intro id o ho
    by_cases hid : id < H.length
    · rw [List.getElem?_append_left hid] at ho
      exact .inl ⟨hid, ho⟩
    · rw [List.getElem?_append_right (by omega)] at ho
      cases hh : id - H.length with
      | zero => rw [hh] at ho; simp only [List.getElem?_cons_zero, Option.some.injEq] at ho; exact .inr ⟨by omega, ho.symm⟩
      | succ k => rw [hh] at ho; simp at ho
  refine ⟨⟨h.below, fun id L m hm => ?_, fun id L m hm => ?_, fun id L m cs e' wr md hm hH => ?_, fun id o ho => ?_, fun id id' o o' L L' m m' hne ho ho' hw hl hl' hm hm' => ?_, h.gl⟩, hsub⟩
  · rcases old hm with ⟨h1, h2, h3⟩ | ⟨h1, h2⟩
    · subst h3; exact ⟨by simp; omega, hb⟩
    · have := h.dom id L m h2; exact ⟨by simp; omega, this.2⟩
  · rcases old hm with ⟨h1, h2, h3⟩ | ⟨h1, h2⟩
    · rw [h1, append_get.1]; simp
    · have := (h.dom id L m h2).1
      rw [List.getElem?_append_left this]
      exact h.nohole id L m h2
  · rcases old hm with ⟨h1, h2, h3⟩ | ⟨h1, h2⟩
    · rw [h1, append_get.1] at hH
      cases hH
      omega
    · have := (h.dom id L m h2).1
      rw [List.getElem?_append_left this] at hH
      exact h.ver id L m cs e' wr md h2 hH
  · rcases hget ho with ⟨hid, ho⟩ | ⟨hid, rfl⟩
    · refine (h.ok id o ho).keep hsub (fun L => ?_) fun _ _ _ _ => rfl
      exact ext1_ne (fun hh => by omega)
    · subst hid
      refine ⟨Nat.le_refl _, ⟨_, ext1_at _ _ _ _⟩, fun L m h1 h2 h3 => ?_⟩
      rcases old h3 with ⟨_, h5, rfl⟩ | ⟨h4, _⟩
      · refine ⟨fun i x _ hx => ?_, fun hh => by cases hh⟩
        obtain ⟨y, hy1, hy2⟩ := hc i x hx
        exact ⟨y, hy1, hy2.mono hsub⟩
      · exact absurd rfl h4
  · rcases hget ho with ⟨hid, ho⟩ | ⟨hid, rfl⟩
    · rcases hget ho' with ⟨hid', ho'⟩ | ⟨hid', rfl⟩
      · rcases old hm with ⟨h1, _, _⟩ | ⟨_, hm⟩
        · omega
        · rcases old hm' with ⟨h1, _, _⟩ | ⟨_, hm'⟩
          · omega
          · exact h.sep id id' o o' L L' m m' hne ho ho' hw hl hl' hm hm'
      · rw [hnw id o ho] at hw; cases hw
    · cases hw


/-- A slice of any cells in an argument. -/
theorem ArgSt.sliceV {P : Program} {W : World} {μ : PMap} {H : AHeap} (h : ArgSt P W μ H) {e : Nat} {x : Addr} {len cap : Nat} (vs : List Value) (hsp : x.spot = none ∧ x.block < W.heap.size) (hlen : vs.length = len)
    (hc : ∀ i v, vs[i]? = some v → ∃ y, W.cell? (x.add i) = some y ∧ VRel μ v y) (hcap : len ≤ cap) :
    ∃ av H' μ', ArgSt P W μ' H' ∧ Sub μ μ' ∧ VRel μ' av (.slice (some x) len cap) ∧ Rd H' e 1 av len vs ∧ Stay none H H' := by
  obtain ⟨b, off, spot⟩ := x
  obtain ⟨h1, h2⟩ := hsp
  simp only at h1 h2
  subst h1
  obtain ⟨s1, s2⟩ := h.sim.roV h.ro (vs := vs) (e := e) (b := b) (off := off) h2 (fun i v hv => by
    have := hc i v hv
    unfold Addr.add at this
    split at this
    · rename_i hi; subst hi; exact this
    · exact this)
  refine ⟨.slice (some ⟨H.length, 0, some vs.length⟩) len len, _, _, ⟨s1, fun id o ho => ?_⟩, s2, ?_, ⟨by omega, .inr ⟨H.length, vs.length, vs.length, .ro, len, vs, rfl, Nat.le_refl _, Nat.le_refl _, by omega, append_get.1, by rw [List.take_of_length_le (by omega)]⟩⟩, Stay.app none H _⟩
  · by_cases hid : id < H.length
    · rw [List.getElem?_append_left hid] at ho
      exact h.ro id o ho
    · rw [List.getElem?_append_right (by omega)] at ho
      cases hh : id - H.length with
      | zero => rw [hh] at ho; simp only [List.getElem?_cons_zero, Option.some.injEq] at ho; subst ho; rfl
      | succ k => rw [hh] at ho; simp at ho
  · exact VRel.slice (μ := ext1 μ H.length vs.length ⟨b, off, 0, true⟩) H.length 0 vs.length len len cap ⟨b, off, 0, true⟩ (ext1_at _ _ _ _) hcap (fun _ hh => by cases hh)

/-- Where a cell is, there is a block. -/
theorem cell_here {w : World} {a : Addr} {v : Value} (h : w.cell? a = some v) : a.spot = none ∧ a.block < w.heap.size := by
  unfold World.cell? at h
  split at h
  · rename_i c t f hh
    split at h
    · cases h
    · rename_i hs
      refine ⟨by simpa using hs, (Array.getElem?_eq_some_iff.1 hh).1⟩
  · cases h

/-- Rows of numbers, one behind the other. -/
theorem ArgSt.rows {P : Program} {W : World} {q : Nat} (A : Nat → Option Addr) (L C : Nat → Nat) (Z : Nat → List Int) : ∀ (n : Nat) {μ : PMap} {H : AHeap}, ArgSt P W μ H →
    (∀ r, r < n → L r ≤ C r ∧ (Z r).length = C r ∧ (A r = none → C r = 0) ∧ ∀ a', A r = some a' → ∀ c, c < C r → W.cell? (a'.add c) = some (.int .i64 ((Z r).getD c 0))) →
    ∃ (cs : List Value) (H' : AHeap) (μ' : PMap), cs.length = n ∧ ArgSt P W μ' H' ∧ Sub μ μ' ∧ Stay none H H' ∧ ∀ r, r < n → ∃ v, cs[r]? = some v ∧ VRel μ' v (.slice (A r) (L r) (C r)) ∧ Rd H' q 1 v (L r) (((Z r).take (L r)).map (Value.int .i64))
  | 0, μ, H, h, _ => ⟨[], H, μ, rfl, h, Sub.refl μ, Stay.refl _ _, fun r hr => by omega⟩
  | n + 1, μ, H, h, hr => by
    obtain ⟨cs, H1, μ1, k1, k2, k3, k4, k5⟩ := ArgSt.rows (q := q) A L C Z n h (fun r hh => hr r (by omega))
    obtain ⟨f1, f2, f3, f4⟩ := hr n (by omega)
    have hone : ∃ v H2 μ2, ArgSt P W μ2 H2 ∧ Sub μ1 μ2 ∧ Stay none H1 H2 ∧ VRel μ2 v (.slice (A n) (L n) (C n)) ∧ Rd H2 q 1 v (L n) (((Z n).take (L n)).map (Value.int .i64)) := by
      by_cases hC : C n = 0
      · have hL : L n = 0 := by omega
        rw [hC, hL]
        cases hA : A n with
        | none => exact ⟨.slice none 0 0, H1, μ1, k2, Sub.refl _, Stay.refl _ _, .base _ rfl, ⟨rfl, .inl ⟨rfl, .inl rfl⟩⟩⟩
        | some a => exact ⟨emptySlice, H1, μ1, k2, Sub.refl _, Stay.refl _ _, .empty a, ⟨rfl, .inl ⟨rfl, .inr rfl⟩⟩⟩
      · obtain ⟨a, ha⟩ : ∃ a, A n = some a := by
          cases hA : A n with
          | none => exact absurd (f3 hA) hC
          | some a => exact ⟨a, rfl⟩
        have f5 := f4 a ha
        have h0 := f5 0 (by omega)
        have e0 : a.add 0 = a := by unfold Addr.add; simp
        rw [e0] at h0
        rw [ha]
        obtain ⟨av, H2, μ2, q1, q2, q3, q4, q5⟩ := k2.sliceV (e := q) (x := a) (len := L n) (cap := C n) (((Z n).take (L n)).map (Value.int .i64)) (cell_here h0) (by simp; omega) (fun i w hw => by
          simp only [List.getElem?_map, Option.map_eq_some_iff] at hw
          obtain ⟨z, hz, rfl⟩ := hw
          have hil : i < L n := by
            have := (List.getElem?_eq_some_iff.1 hz).1
            simp at this; omega
          rw [List.getElem?_take_of_lt hil] at hz
          refine ⟨_, f5 i (by omega), ?_⟩
          rw [List.getD_eq_getElem?_getD, hz]
          exact .base _ rfl) f1
        exact ⟨av, H2, μ2, q1, q2, q5, q3, q4⟩
    obtain ⟨v, H2, μ2, p1, p2, p3, p4, p5⟩ := hone
    refine ⟨cs ++ [v], H2, μ2, by simp [k1], p1, k3.trans p2, k4.trans p3, fun r hh => ?_⟩
    rcases Nat.lt_succ_iff_lt_or_eq.1 hh with hlt | rfl
    · obtain ⟨u, u1, u2, u3⟩ := k5 r hlt
      exact ⟨u, by rw [List.getElem?_append_left (by omega)]; exact u1, u2.mono p2, u3.stay p3⟩
    · exact ⟨v, by rw [List.getElem?_append_right (by omega), k1]; simp, p4, p5⟩

theorem cell_form {P : Program} {w : World} {r : Reach} {base : Nat} {t e : TypeId} {v : Value} (ht : P.underlying t = some (.slice e)) (h : Cell.okWide P w r base t v) : ∃ a n c, v = .slice a n c := by
  unfold Cell.okWide at h
  rw [ht] at h
  unfold Cell.ok at h
  rw [ht] at h
  cases v with
  | slice a n c => exact ⟨a, n, c, rfl⟩
  | _ => exact absurd h (by simp)

theorem weightsAll_mem {A : Type} {P : Program} {e : TypeId} : ∀ (l : List (DataW A)) (d : DataW A), d ∈ l → ∀ n ∈ d.weights P e, n ∈ DataW.weightsAll P e l
  | [], d, hd, _, _ => by cases hd
  | x :: r, d, hd, n, hn => by
    unfold DataW.weightsAll
    rw [List.mem_append]
    rcases List.mem_cons.1 hd with rfl | hd
    · exact .inl hn
    · exact .inr (weightsAll_mem r d hd n hn)

/-- Lists of numbers in an argument, with what bounds their sizes, and what they read as. -/
theorem ArgSt.gridU {P : Program} {W : World} {μ : PMap} {H : AHeap} (h : ArgSt P W μ H) {A : Type} {enc : TypeId × Value → A} {t e q : TypeId} {v : Value} {d : DataW A} {ps : List MemPlace} {base : Nat}
    (ht : P.underlying t = some (.slice e)) (he : P.underlying e = some (.slice q)) (hq : P.underlying q = some (.int .i64)) (ce : P.cellsOf e = 1) (cq : P.cellsOf q = 1)
    (hval : Value.okWide P W .any base t v) (hd : DataW.Trod enc P W 0 (fun _ => true) true t v d ps) :
    ∃ (G : List (List Int)) (av : Value) (H' : AHeap) (μ' : PMap), ArgSt P W μ' H' ∧ Sub μ μ' ∧ VRel μ' av v ∧ Stay none H H' ∧ (∃ cs, Rd H' e 1 av G.length cs ∧ ∀ (i : Nat) (l : List Int), G[i]? = some l → ∃ r, cs[i]? = some r ∧ Rd H' q 1 r l.length (l.map (Value.int .i64))) ∧
      (∀ M, (∀ n ∈ d.weights P t, n ≤ M) → G.length * P.bytesOf e ≤ M ∧ ∀ l ∈ G, l.length * P.bytesOf q ≤ M) ∧
      ((d = .nil ∧ G = []) ∨ ∃ (Ar : Nat → Option Addr) (L : Nat → Nat) (Z : Nat → List Int) (n : Nat) (sp : List (DataW A)), d = .slice ((List.range n).map fun r => Go.Deep.intRow .i64 (Ar r) (L r) (Z r)) sp ∧ G = (List.range n).map (fun r => (Z r).take (L r)) ∧ ∀ r, r < n → Ar r = none → L r = 0) := by
  obtain ⟨fuel, hd⟩ := hd
  have hcell : Cell.okWide P W .any base t v := by
    unfold Value.okWide at hval
    rw [ht] at hval
    exact hval
  rcases Go.Deep.open_int_rows ht he hq ce cq hd with ⟨hh, hdn⟩ | ⟨a, len, cap, Ar, L, C, Z, hh, _, hlc, _, hx, hrow⟩
  · have hv : v = .slice none 0 0 := by
      obtain ⟨x, n, c, rfl⟩ := cell_form ht hcell
      simpa [Value.cells] using hh
    subst hv
    exact ⟨[], .slice none 0 0, H, μ, h, Sub.refl μ, .base _ rfl, Stay.refl _ _, ⟨[], ⟨rfl, .inl ⟨rfl, .inl rfl⟩⟩, fun i l hl => by simp at hl⟩, fun M _ => ⟨by simp, by simp⟩, .inl ⟨by simp only [Prod.mk.injEq] at hdn; exact hdn.1, rfl⟩⟩
  · have hv : v = .slice (some a) len cap := by
      obtain ⟨x, n, c, rfl⟩ := cell_form ht hcell
      simpa [Value.cells] using hh
    subst hv
    obtain ⟨g1, g2⟩ := cell_slice ht hcell
    obtain ⟨cs, H1, μ1, k1, k2, k3, k4, k5⟩ := ArgSt.rows (q := q) Ar L C Z len h (fun r hr => by
      obtain ⟨_, r2, _, r4, _, r6, r7⟩ := hrow r (by omega)
      exact ⟨r2, r4, r6, fun a' ha' => (r7 a' ha').2⟩)
    obtain ⟨av, H2, μ2, q1, q2, q3, q4, q5⟩ := k2.sliceV (e := e) (x := a) (len := len) (cap := cap) cs ⟨g1, g2⟩ k1 (fun i w hw => by
      have hi : i < len := by
        have := (List.getElem?_eq_some_iff.1 hw).1
        omega
      obtain ⟨u, u1, u2, _⟩ := k5 i hi
      rw [u1] at hw
      cases hw
      exact ⟨_, (hrow i (by omega)).1, u2⟩) hlc
    have hG : ((List.range len).map fun r => (Z r).take (L r)).length = len := by simp
    refine ⟨(List.range len).map fun r => (Z r).take (L r), av, H2, μ2, q1, k3.trans q2, q3, k4.trans q5, ⟨cs, by rw [hG]; exact q4, fun i l hl => ?_⟩, fun M hM => ?_, .inr ⟨Ar, L, Z, len, _, by simp only [Prod.mk.injEq] at hx; exact hx.1, rfl, fun r hr hA => ?_⟩⟩
    · rw [List.getElem?_map, Option.map_eq_some_iff] at hl
      obtain ⟨r, hr, rfl⟩ := hl
      have hi : i < len := by
        have := (List.getElem?_eq_some_iff.1 hr).1
        simpa using this
      rw [List.getElem?_range hi] at hr
      cases hr
      obtain ⟨u, u1, _, u3⟩ := k5 i hi
      obtain ⟨_, r2, _, r4, _⟩ := hrow i (by omega)
      refine ⟨u, u1, ?_⟩
      rw [show ((Z i).take (L i)).length = L i by simp; omega]
      exact u3.stay q5
    · simp only [Prod.mk.injEq] at hx
      rw [hx.1] at hM
      have e1 : ∀ n, n ∈ (DataW.slice ((List.range len).map fun r => Go.Deep.intRow (H := A) .i64 (Ar r) (L r) (Z r)) ((List.range (cap - len)).map fun j => Go.Deep.intRow .i64 (Ar (len + j)) (L (len + j)) (Z (len + j)))).weights P t ↔
          n = (len + (cap - len)) * P.bytesOf e ∨ n ∈ DataW.weightsAll P e ((List.range len).map fun r => Go.Deep.intRow (H := A) .i64 (Ar r) (L r) (Z r)) ∨ n ∈ DataW.weightsAll P e ((List.range (cap - len)).map fun j => Go.Deep.intRow (H := A) .i64 (Ar (len + j)) (L (len + j)) (Z (len + j))) := by
        intro n
        simp only [DataW.weights, ht, List.length_map, List.length_range, List.mem_cons, List.mem_append]
      refine ⟨?_, fun l hl => ?_⟩
      · have hm := hM _ ((e1 _).2 (.inl rfl))
        rw [hG]
        have := Nat.mul_le_mul_right (P.bytesOf e) (show len ≤ len + (cap - len) by omega)
        omega
      · obtain ⟨r, hr, rfl⟩ := List.mem_map.1 hl
        have hi : r < len := List.mem_range.1 hr
        obtain ⟨_, r2, _, r4, _, r6, _⟩ := hrow r (by omega)
        cases hA : Ar r with
        | none =>
          have : L r = 0 := by have := r6 hA; omega
          simp [this]
        | some a' =>
          have hm := hM (((Z r).take (L r)).length * P.bytesOf q + ((Z r).drop (L r)).length * P.bytesOf q) ((e1 _).2 (.inr (.inl (weightsAll_mem _ (Go.Deep.intRow .i64 (Ar r) (L r) (Z r)) (List.mem_map.2 ⟨r, hr, rfl⟩) _ (by
            rw [hA]
            simp [Go.Deep.intRow, DataW.weights, he, lits, Nat.add_mul])))))
          omega
    · obtain ⟨_, r2, _, r4, _, r6, _⟩ := hrow r (by omega)
      have := r6 hA
      omega
end Go.Proofs.YtkemihfaohkoeaaDoor.Am
namespace Go.Proofs.YtkemihfaohkoeaaDoor.Am
open Go

/-- One cell of a row of one-cell elements is put. -/
theorem put_map {α : Type} (f : α → Value) (l : List α) {i : Nat} (hi : i < l.length) (c : α) : putList (l.map f) (i * 1 + 0) [f c] = (l.set i c).map f := by
  unfold putList
  rw [Nat.mul_one, Nat.add_zero]
  apply List.ext_getElem
  · simp; omega
  · intro j h1 h2
    simp only [List.getElem_map, List.getElem_set]
    rw [List.getElem_append]
    split
    · rename_i hj
      rw [List.getElem_append]
      split
      · rename_i hj2
        simp only [List.length_take, List.length_map] at hj2
        rw [if_neg (by omega)]
        simp
      · rename_i hj2
        simp only [List.length_append, List.length_take, List.length_map, List.length_cons, List.length_nil] at hj hj2
        rw [if_pos (by omega)]
        simp
    · rename_i hj
      simp only [List.length_append, List.length_take, List.length_map, List.length_cons, List.length_nil] at hj
      rw [if_neg (by omega)]
      simp only [List.getElem_drop, List.getElem_map, List.length_append, List.length_take, List.length_map, List.length_cons, List.length_nil]
      congr 2
      omega
theorem rep_map {α : Type} (f : α → Value) (a : α) : ∀ n, repCells [f a] n = (List.replicate n a).map f
  | 0 => rfl
  | n + 1 => by
    unfold repCells
    rw [rep_map f a n, List.replicate_succ]
    rfl

end Go.Proofs.YtkemihfaohkoeaaDoor.Am
namespace Go.Proofs.YtkemihfaohkoeaaDoor.Am
open Go

/-- The text of some byte codes. -/
def bstr (l : List Nat) : ByteArray := ⟨(l.map fun n => UInt8.ofNat n).toArray⟩
/-- A word, given by its letters. -/
def lw (w : List Nat) : ByteArray := bstr (w.map (97 + ·))
end Go.Proofs.YtkemihfaohkoeaaDoor.Am
namespace Go.Proofs.YtkemihfaohkoeaaDoor.Am
open Go

end Go.Proofs.YtkemihfaohkoeaaDoor.Am
namespace Go.Proofs.YtkemihfaohkoeaaDoor.Am
open Go
theorem Rd.stayNe {H H' : AHeap} {e s : Nat} {x : Value} {n : Nat} {cs : List Value} (h : Rd H e s x n cs) {o : Option Nat} (k : Stay o H H') (hne : ∀ id off L n c, x = .slice (some ⟨id, off, some L⟩) n c → o ≠ some id) : Rd H' e s x n cs := by
  refine ⟨h.1, ?_⟩
  rcases h.2 with h2 | ⟨id, L, wr, md, c, all, h2, h3, h4, h5, h6, h7⟩
  · exact .inl h2
  · exact .inr ⟨id, L, wr, md, c, all, h2, h3, h4, h5, by rw [k.2 id (List.getElem?_eq_some_iff.1 h6).1 (hne _ _ _ _ _ h2)]; exact h6, h7⟩
end Go.Proofs.YtkemihfaohkoeaaDoor.Am
namespace Go.Proofs.YtkemihfaohkoeaaDoor.Am
open Go

/-- A list of one's own that grows and shrinks at its end: nil, or the beginning of a row. -/
def Stk (H : AHeap) (e : Nat) (x : Value) (o : Option Nat) (n : Nat) (cs : List Value) : Prop :=
  cs.length = n ∧
  match o with
  | none => n = 0 ∧ x = .slice none 0 0
  | some id => ∃ all wr, x = .slice (some ⟨id, 0, some all.length⟩) n all.length ∧ n ≤ all.length ∧ wr ≤ all.length ∧ 0 < all.length ∧ H[id]? = some (.cells all e wr .row) ∧ cs = all.take n

theorem Stk.rd {H : AHeap} {e : Nat} {x : Value} {o : Option Nat} {n : Nat} {cs : List Value} (h : Stk H e x o n cs) : Rd H e 1 x n cs := by
  obtain ⟨h1, h2⟩ := h
  refine ⟨by rw [h1, Nat.mul_one], ?_⟩
  cases o with
  | none => exact .inl ⟨h2.1, .inl h2.2⟩
  | some id =>
    obtain ⟨all, wr, rfl, hn, hwr, _, hH, rfl⟩ := h2
    exact .inr ⟨id, all.length, wr, .row, all.length, all, rfl, hwr, Nat.le_refl _, by omega, hH, by rw [Nat.mul_one]⟩
theorem Stk.len {H : AHeap} {e : Nat} {x : Value} {o : Option Nat} {n : Nat} {cs : List Value} (h : Stk H e x o n cs) : ∃ a c, x = .slice a n c := h.rd.len
theorem Stk.stay {H H' : AHeap} {e : Nat} {x : Value} {o o' : Option Nat} {n : Nat} {cs : List Value} (h : Stk H e x o n cs) (k : Stay o' H H') (hne : ∀ id, o = some id → o' ≠ some id) : Stk H' e x o n cs := by
  obtain ⟨h1, h2⟩ := h
  refine ⟨h1, ?_⟩
  cases o with
  | none => exact h2
  | some id =>
    obtain ⟨all, wr, a, b, c, d, f, g⟩ := h2
    exact ⟨all, wr, a, b, c, d, by rw [k.2 id (List.getElem?_eq_some_iff.1 f).1 (hne id rfl)]; exact f, g⟩
theorem Stk.lt {H : AHeap} {e : Nat} {x : Value} {id n : Nat} {cs : List Value} (h : Stk H e x (some id) n cs) : id < H.length := by
  obtain ⟨_, all, wr, _, _, _, _, hH, _⟩ := h
  exact (List.getElem?_eq_some_iff.1 hH).1
theorem Own.stk {H : AHeap} {e : Nat} {x : Value} {id n : Nat} {cs : List Value} (h : Own H e 1 x (some id) n cs) : Stk H e x (some id) n cs := by
  obtain ⟨hl, hn, rfl, wr, hwr, hH⟩ := h
  have e1 : cs.length = n := by omega
  exact ⟨e1, cs, wr, by rw [e1], by omega, hwr, by omega, hH, by rw [← e1, List.take_length]⟩

/-- One element more. -/
theorem stk_push {P : Program} {t e by_ : Nat} (T : ElemT P t e 1 by_) {H : AHeap} {x : Value} {o : Option Nat} {n : Nat} {cs : List Value} (h : Stk H e x o n cs) {v : Value} (hv : isCell v = true) {prot : Nat}
    (hp : ∀ id, o = some id → prot ≤ id) (hB : prot ≤ H.length) (hroom : (n + 1) * by_ ≤ 140737488355328) {L : Nat} (hL : L = 1) {el : Nat} (hel : el = 1) :
    ∃ a' c' o' H', aappend P prot true t t x (.slice (some ⟨H.length, 0, some L⟩) 1 1) (H ++ [.cells [v] e el .row]) = some (.slice a' (n + 1) c', H') ∧ Stk H' e (.slice a' (n + 1) c') (some o') (n + 1) (cs ++ [v]) ∧ Stay o H H' ∧ prot ≤ o' ∧ (o = none → H.length ≤ o') ∧ (∀ id, o = some id → o' = id) := by
  obtain ⟨h1, h2⟩ := h
  cases o with
  | none =>
    obtain ⟨rfl, rfl⟩ := h2
    have hcs : cs = [] := List.eq_nil_of_length_eq_zero h1
    subst hcs
    obtain ⟨a', c', o', H', q1, q2, q3, q4, q5, q6⟩ := own_app T (own_nil (H := H) (e := e) (s := 1)) (ecs := [v]) rfl (by simp [hv]) (prot := prot) (room := true) (fun id h => by cases h) hB hroom hL (el := el) hel
    exact ⟨a', c', o', H', q1, q2.stk, q3, q4, q5, q6⟩
  | some id =>
    obtain ⟨all, wr, rfl, hn, hwr, h0, hH, rfl⟩ := h2
    subst hL; subst hel
    obtain ⟨z, hz, hzl⟩ := T.ze
    have hlt := (List.getElem?_eq_some_iff.1 hH).1
    have hH' : (H ++ [AObj.cells [v] e 1 .row])[id]? = some (.cells all e wr .row) := by rw [List.getElem?_append_left hlt]; exact hH
    have hsrc : srcCells P 1 t (.slice (some ⟨H.length, 0, some 1⟩) 1 1) (H ++ [AObj.cells [v] e 1 .row]) = some (1, [v]) := by
      unfold srcCells
      rw [T.un]
      simp only [cellsAt]
      unfold getCells
      rw [append_get.1]
      rfl
    have hcond : t = t ∧ 0 < 1 ∧ 0 < by_ ∧ (cellsOf z).length = 1 := ⟨rfl, by omega, T.b0, hzl⟩
    have hcond2 : ([v] : List Value).length = 1 * 1 ∧ ([v] : List Value).all isCell = true := ⟨rfl, by simp [hv]⟩
    have hpi := hp id rfl
    have hl : (all.take n).length = n := h1
    by_cases hc : n + 1 ≤ all.length
    · have hput : putList all (0 + n * 1) [v] = all.set n v := by
        unfold putList
        rw [Nat.mul_one, Nat.zero_add, List.set_eq_take_append_cons_drop, if_pos (by omega)]
        simp
      refine ⟨_, _, id, (H ++ [AObj.cells [v] e 1 .row]).set id (.cells (all.set n v) e all.length .row), ?_, ⟨by simp [hl], all.set n v, all.length, by rw [List.length_set], by rw [List.length_set]; omega, by rw [List.length_set]; exact Nat.le_refl _, by rw [List.length_set]; exact h0, List.getElem?_set_self (by simp; omega), ?_⟩, ?_, hpi, fun h => (by cases h), fun id' h => (by cases h; rfl)⟩
      · unfold aappend
        rw [T.sl, Option.bind_some, T.sz, Option.bind_some, T.bt, Option.bind_some, hz, Option.bind_some, if_pos hcond, hsrc, Option.bind_some]
        dsimp only
        rw [if_pos hcond2]
        simp only [Nat.one_ne_zero, if_false]
        rw [if_pos hc]
        unfold setCells
        rw [hH']
        simp only [Bool.true_eq_false, if_false]
        rw [if_pos ⟨rfl, hpi, trivial, by simp; omega, by simp [hv]⟩, Option.map_some, hput]
      · rw [List.take_add_one, List.getElem?_set_self (by omega), List.take_set_of_le (Nat.le_refl _)]
        rfl
      · refine ⟨by simp, fun q hq hne => ?_⟩
        rw [List.getElem?_set_ne (fun e => hne (by rw [e])), List.getElem?_append_left hq]
    · have hn2 : n = all.length := by omega
      subst hn2
      rw [List.take_length]
      have el : (all ++ [v]).length = (all.length + 1) * 1 := by simp
      refine ⟨some ⟨id, 0, some ((all.length + 1) * 1)⟩, all.length + 1, id, (H ++ [AObj.cells [v] e 1 .row]).set id (.cells (all ++ [v]) e wr .row), ?_, ⟨by simp, all ++ [v], wr, ?_, by simp, by simp; omega, by simp, List.getElem?_set_self (by simp; omega), ?_⟩, ?_, hpi, fun h => (by cases h), fun id' h => (by cases h; rfl)⟩
      · unfold aappend
        rw [T.sl, Option.bind_some, T.sz, Option.bind_some, T.bt, Option.bind_some, hz, Option.bind_some, if_pos hcond, hsrc, Option.bind_some]
        dsimp only
        rw [if_pos hcond2]
        simp only [Nat.one_ne_zero, if_false]
        rw [if_neg hc, hH']
        simp only [OMode.isRow, true_and]
        rw [if_pos (by refine ⟨hpi, by omega, ?_⟩; simpa using hroom)]
      · simp
      · rw [List.take_of_length_le (by simp)]
      · refine ⟨by simp, fun q hq hne => ?_⟩
        rw [List.getElem?_set_ne (fun e => hne (by rw [e])), List.getElem?_append_left hq]

/-- A list of letters as a text. -/
def lcs (w : List Nat) : List Value := w.map fun c => .int .u8 ((97 + c : Nat) : Int)
end Go.Proofs.YtkemihfaohkoeaaDoor.Am
namespace Go.Proofs.YtkemihfaohkoeaaDoor.Am
open Go
theorem putList_one (L : List Value) {i : Nat} (hi : i < L.length) (v : Value) : putList L (0 + i * 1) [v] = L.set i v := by
  unfold putList
  rw [Nat.mul_one, Nat.zero_add, List.set_eq_take_append_cons_drop, if_pos hi]
  simp
/-- An array in a variable: a part is read, is written; all of it. -/
theorem arr_get {H : AHeap} {p e n : Nat} {L : List Value} {md : OMode} (h : H[p]? = some (.cells L e n md)) (hl : L.length = n) {i : Nat} {v : Value} (hv : L[i]? = some v) : getCells H p n (0 + i * 1) 1 = some [v] := by
  have hi := (List.getElem?_eq_some_iff.1 hv).1
  unfold getCells
  rw [h]
  simp only
  rw [if_pos ⟨Nat.le_refl _, by omega, by omega⟩, Nat.mul_one, Nat.zero_add, List.drop_eq_getElem_cons hi]
  rw [List.getElem?_eq_getElem hi] at hv
  simp [Option.some.inj hv]
theorem arr_set {H : AHeap} {p e n prot : Nat} {L : List Value} (h : H[p]? = some (.cells L e n .var)) (hl : L.length = n) (hp : prot ≤ p) {i : Nat} (hi : i < n) {v : Value} (hv : isCell v = true) :
    setCells H prot p n (0 + i * 1) [v] = some (H.set p (.cells (L.set i v) e n .var)) := by
  unfold setCells
  rw [h]
  simp only
  rw [if_pos ⟨rfl, hp, by omega, by simp; omega, by simp [hv]⟩, putList_one L (by omega)]
theorem arr_all {H : AHeap} {p e n : Nat} {L : List Value} {md : OMode} (h : H[p]? = some (.cells L e n md)) (hl : L.length = n) : getCells H p n 0 n = some L := by
  unfold getCells
  rw [h]
  simp only
  rw [if_pos ⟨Nat.le_refl _, by omega, by omega⟩, List.drop_zero, List.take_of_length_le (by omega)]
theorem arr_put {H : AHeap} {p e n prot : Nat} {L L' : List Value} (h : H[p]? = some (.cells L e n .var)) (hl : L.length = n) (hp : prot ≤ p) (hl' : L'.length = n) (hv : L'.all isCell = true) :
    setCells H prot p n 0 L' = some (H.set p (.cells L' e n .var)) := by
  unfold setCells
  rw [h]
  simp only
  rw [if_pos ⟨rfl, hp, by omega, by omega, hv⟩]
  unfold putList
  rw [List.take_zero, List.nil_append, Nat.zero_add, List.drop_of_length_le (by omega), List.append_nil]
theorem set_stay {H : AHeap} {p : Nat} {o : AObj} : Stay (some p) H (H.set p o) := ⟨by simp, fun q _ hq => List.getElem?_set_ne (fun e => hq (by rw [e]))⟩
/-- A variable of an array's type is made. -/
theorem alloc_arr {P : Program} {t n : Nat} {z : Value} (hz : tzero P t = some (.agg ((List.replicate n z).toArray))) (hp : plain0 z = true) (H : AHeap) :
    aalloc P t H = some (.pointer (some ⟨H.length, 0, some n⟩), H ++ [.cells (List.replicate n z) t n .var]) := by
  unfold aalloc
  rw [hz, Option.bind_some]
  have e : cellsOf (.agg ((List.replicate n z).toArray)) = List.replicate n z := by simp [cellsOf, Value.cells]
  rw [e]
  rw [if_pos (by rw [List.all_eq_true]; intro x hx; rw [List.mem_replicate] at hx; rw [hx.2]; exact hp)]
  simp [ptrTo, newVarObj]
end Go.Proofs.YtkemihfaohkoeaaDoor.Am
namespace Go.Proofs.YtkemihfaohkoeaaDoor.Am
open Go
abbrev vo (cs : List Value) (e : TypeId) : AObj := .cells cs e cs.length .var
abbrev wo (cs : List Value) (e : TypeId) : AObj := .cells cs e cs.length .row
theorem ai {a b : Prop} (h : a) (k : b) : a ∧ b := ⟨h, k⟩
theorem lp_of2 {C : Cfg} {fn : AFunc} {i prot : Nat} {H0 : AHeap} {s : LS} (hs : List Hint) {r : LS ⊕ LO} {c : Prop} (h : c) (e : c = plp C fn i prot H0 s hs r) : lpOf C fn i prot H0 s = some r := loop_of hs (e.mp h)
theorem fn_of2 {C : Cfg} {f : FuncId} (fn : AFunc) {args : List Value} {prot : Nat} {H : AHeap} (hs : List Hint) {v : Value} {H' : AHeap} {c : Prop} (h : c) (e : c = pcall C fn args prot H hs v H')
    (hf : C.code f = some fn) (hm : fn.memo = none := by rfl) : callInf C f args prot H = some (v, H') := call_of hf hm hs (e.mp h)
end Go.Proofs.YtkemihfaohkoeaaDoor.Am
set_option linter.unusedVariables false
open Go Go.Proofs.YtkemihfaohkoeaaDoor.Am
namespace Go.Proofs.YtkemihfaohkoeaaDoor.Am11d
theorem f22_F_0 {x0a : Option Addr} {x0n x0c : Nat} {H : AHeap} {prot : Nat} (h1 : (↑x0n : Int) > 512) : callInf cfg 22 [.slice x0a x0n x0c] prot H = some (Value.int .i64 6, H) :=
  fn_of2 a22 [.e, .e, .b true] (ai (decide_eq_true h1) (Eq.refl ((Value.int .i64 6, H) : Value × AHeap))) (by kernel_rfl) rfl
theorem f22_F_1 {x0a : Option Addr} {x0n x0c : Nat} {H : AHeap} {prot : Nat} {z2 : Value} {H1 : AHeap} (h1 : ¬((↑x0n : Int) > 512)) (h2 : lpInf (lpOf cfg a22 0 prot H) ([Value.slice x0a x0n x0c, Value.slice x0a x0n x0c, Value.int .i64 (↑x0n : Int), Value.int .i64 0], H) = some (Ex.exit 0, [z2], H1)) : callInf cfg 22 [.slice x0a x0n x0c] prot H = some (Value.int .i64 0, H) :=
  fn_of2 a22 [.e, .e, .b false, .e, .lo (.exit 0, [z2], H1)] (ai (decide_eq_false h1) (ai h2 (Eq.refl ((Value.int .i64 0, H) : Value × AHeap)))) (by kernel_rfl) rfl
theorem f22_F_2 {x0a : Option Addr} {x0n x0c : Nat} {H : AHeap} {prot : Nat} {z2 : Int} {H1 : AHeap} (h1 : ¬((↑x0n : Int) > 512)) (h2 : lpInf (lpOf cfg a22 0 prot H) ([Value.slice x0a x0n x0c, Value.slice x0a x0n x0c, Value.int .i64 (↑x0n : Int), Value.int .i64 0], H) = some (Ex.ret, [Value.int .i64 z2], H1)) : callInf cfg 22 [.slice x0a x0n x0c] prot H = some (Value.int .i64 z2, H) :=
  fn_of2 a22 [.e, .e, .b false, .e, .lo (.ret, [.int .i64 z2], H1)] (ai (decide_eq_false h1) (ai h2 (Eq.refl ((Value.int .i64 z2, H) : Value × AHeap)))) (by kernel_rfl) rfl
theorem f22_L0_0 {x0a : Option Addr} {x0n x0c : Nat} {x10a : Option Addr} {x10n x10c : Nat} {x11 x12 : Int} {H0 : AHeap} {prot : Nat} {H : AHeap} {x14p x14o x14l : Nat} {x15a : Option Addr} {x15n x15c : Nat} {z0a : Option Addr} {z0n z0c : Nat} {z2 : Value} {z10a : Option Addr} {z10n z10c : Nat} {z11 z12 : Int} {H2 : AHeap} (h1 : x12 < x11) (h2 : aindexAddr cfg.P 22 (Value.slice x10a x10n x10c) (Value.int .i64 x12) = some (Value.pointer (some ⟨x14p, x14o, some x14l⟩))) (h3 : getCells H x14p x14l x14o 1 = some [Value.slice x15a x15n x15c]) (h4 : lpInf (lpOf cfg a22 1 prot H0) ([Value.slice x0a x0n x0c, Value.slice x10a x10n x10c, Value.int .i64 x11, Value.int .i64 x12, Value.slice x15a x15n x15c, Value.int .i64 (↑x15n : Int), Value.int .i64 0], H) = some (Ex.exit 2, [Value.slice z0a z0n z0c, z2, Value.slice z10a z10n z10c, Value.int .i64 z11, Value.int .i64 z12], H2)) (h5 : Fit .i64 (z12 + 1)) : lpOf cfg a22 0 prot H0 ([.slice x0a x0n x0c, .slice x10a x10n x10c, .int .i64 x11, .int .i64 x12], H) = some (Sum.inl ([Value.slice z0a z0n z0c, Value.slice z10a z10n z10c, Value.int .i64 z11, Value.int .i64 (z12 + 1)], H2)) :=
  lp_of2 [.e, .b true, .v (.pointer (some ⟨x14p, x14o, some x14l⟩)), .v (.slice x15a x15n x15c), .e, .lo (.exit 2, [.slice z0a z0n z0c, z2, .slice z10a z10n z10c, .int .i64 z11, .int .i64 z12], H2), .e] (ai (decide_eq_true h1) (ai h2 (ai h3 (ai h4 (ai h5 (Eq.refl (Sum.inl ([Value.slice z0a z0n z0c, Value.slice z10a z10n z10c, Value.int .i64 z11, Value.int .i64 (z12 + 1)], H2) : LS ⊕ LO))))))) (by kernel_rfl)
theorem f22_L0_1 {x0a : Option Addr} {x0n x0c : Nat} {x10a : Option Addr} {x10n x10c : Nat} {x11 x12 : Int} {H0 : AHeap} {prot : Nat} {H : AHeap} {x14p x14o x14l : Nat} {x15a : Option Addr} {x15n x15c : Nat} {z0 : Value} {z2 : Int} {z10 z11 z12 : Value} {H2 : AHeap} (h1 : x12 < x11) (h2 : aindexAddr cfg.P 22 (Value.slice x10a x10n x10c) (Value.int .i64 x12) = some (Value.pointer (some ⟨x14p, x14o, some x14l⟩))) (h3 : getCells H x14p x14l x14o 1 = some [Value.slice x15a x15n x15c]) (h4 : lpInf (lpOf cfg a22 1 prot H0) ([Value.slice x0a x0n x0c, Value.slice x10a x10n x10c, Value.int .i64 x11, Value.int .i64 x12, Value.slice x15a x15n x15c, Value.int .i64 (↑x15n : Int), Value.int .i64 0], H) = some (Ex.ret, [z0, Value.int .i64 z2, z10, z11, z12], H2)) : lpOf cfg a22 0 prot H0 ([.slice x0a x0n x0c, .slice x10a x10n x10c, .int .i64 x11, .int .i64 x12], H) = some (Sum.inr (Ex.ret, [Value.int .i64 z2], H2)) :=
  lp_of2 [.e, .b true, .v (.pointer (some ⟨x14p, x14o, some x14l⟩)), .v (.slice x15a x15n x15c), .e, .lo (.ret, [z0, .int .i64 z2, z10, z11, z12], H2)] (ai (decide_eq_true h1) (ai h2 (ai h3 (ai h4 (Eq.refl (Sum.inr (Ex.ret, [Value.int .i64 z2], H2) : LS ⊕ LO)))))) (by kernel_rfl)
theorem f22_L0_2 {x0a : Option Addr} {x0n x0c : Nat} {x10a : Option Addr} {x10n x10c : Nat} {x11 x12 : Int} {H0 : AHeap} {prot : Nat} {H : AHeap} (h1 : ¬(x12 < x11)) : lpOf cfg a22 0 prot H0 ([.slice x0a x0n x0c, .slice x10a x10n x10c, .int .i64 x11, .int .i64 x12], H) = some (Sum.inr (Ex.exit 0, [Value.tuple { toList := [] }], H)) :=
  lp_of2 [.e, .b false] (ai (decide_eq_false h1) (Eq.refl (Sum.inr (Ex.exit 0, [Value.tuple { toList := [] }], H) : LS ⊕ LO))) (by kernel_rfl)
theorem f22_L1_0 {x0a : Option Addr} {x0n x0c : Nat} {x10a : Option Addr} {x10n x10c : Nat} {x11 x12 : Int} {x16a : Option Addr} {x16n x16c : Nat} {x17 x18 : Int} {H0 : AHeap} {prot : Nat} {H : AHeap} {x20p x20o x20l : Nat} {x21 : Int} (h1 : x18 < x17) (h2 : aindexAddr cfg.P 24 (Value.slice x16a x16n x16c) (Value.int .i64 x18) = some (Value.pointer (some ⟨x20p, x20o, some x20l⟩))) (h3 : getCells H x20p x20l x20o 1 = some [Value.int .i64 x21]) (h4 : x21 < 0) : lpOf cfg a22 1 prot H0 ([.slice x0a x0n x0c, .slice x10a x10n x10c, .int .i64 x11, .int .i64 x12, .slice x16a x16n x16c, .int .i64 x17, .int .i64 x18], H) = some (Sum.inr (Ex.ret, [Value.slice x0a x0n x0c, Value.int .i64 11, Value.slice x10a x10n x10c, Value.int .i64 x11, Value.int .i64 x12], H)) :=
  lp_of2 [.e, .b true, .v (.pointer (some ⟨x20p, x20o, some x20l⟩)), .v (.int .i64 x21), .e, .b true, .b true, .b true, .b true, .b true, .b true] (ai (decide_eq_true h1) (ai h2 (ai h3 (ai (decide_eq_true h4) (ai (decide_eq_true h4) (ai (decide_eq_true h4) (ai (decide_eq_true h4) (ai (decide_eq_true h4) (ai (Eq.refl true) (Eq.refl (Sum.inr (Ex.ret, [Value.slice x0a x0n x0c, Value.int .i64 11, Value.slice x10a x10n x10c, Value.int .i64 x11, Value.int .i64 x12], H) : LS ⊕ LO))))))))))) (by kernel_rfl)
theorem f22_L1_1 {x0a : Option Addr} {x0n x0c : Nat} {x10a : Option Addr} {x10n x10c : Nat} {x11 x12 : Int} {x16a : Option Addr} {x16n x16c : Nat} {x17 x18 : Int} {H0 : AHeap} {prot : Nat} {H : AHeap} {x20p x20o x20l : Nat} {x21 : Int} (h1 : x18 < x17) (h2 : aindexAddr cfg.P 24 (Value.slice x16a x16n x16c) (Value.int .i64 x18) = some (Value.pointer (some ⟨x20p, x20o, some x20l⟩))) (h3 : getCells H x20p x20l x20o 1 = some [Value.int .i64 x21]) (h4 : ¬(x21 < 0)) (h5 : x21 ≥ (↑x0n : Int)) : lpOf cfg a22 1 prot H0 ([.slice x0a x0n x0c, .slice x10a x10n x10c, .int .i64 x11, .int .i64 x12, .slice x16a x16n x16c, .int .i64 x17, .int .i64 x18], H) = some (Sum.inr (Ex.ret, [Value.slice x0a x0n x0c, Value.int .i64 11, Value.slice x10a x10n x10c, Value.int .i64 x11, Value.int .i64 x12], H)) :=
  lp_of2 [.e, .b true, .v (.pointer (some ⟨x20p, x20o, some x20l⟩)), .v (.int .i64 x21), .e, .b false, .b false, .b false, .e, .b false, .e, .b false, .b true] (ai (decide_eq_true h1) (ai h2 (ai h3 (ai (decide_eq_false h4) (ai (decide_eq_false h4) (ai (decide_eq_false h4) (ai (decide_eq_false h4) (ai (decide_eq_false h4) (ai (decide_eq_true h5) (Eq.refl (Sum.inr (Ex.ret, [Value.slice x0a x0n x0c, Value.int .i64 11, Value.slice x10a x10n x10c, Value.int .i64 x11, Value.int .i64 x12], H) : LS ⊕ LO))))))))))) (by kernel_rfl)
theorem f22_L1_2 {x0a : Option Addr} {x0n x0c : Nat} {x10a : Option Addr} {x10n x10c : Nat} {x11 x12 : Int} {x16a : Option Addr} {x16n x16c : Nat} {x17 x18 : Int} {H0 : AHeap} {prot : Nat} {H : AHeap} {x20p x20o x20l : Nat} {x21 : Int} (h1 : x18 < x17) (h2 : aindexAddr cfg.P 24 (Value.slice x16a x16n x16c) (Value.int .i64 x18) = some (Value.pointer (some ⟨x20p, x20o, some x20l⟩))) (h3 : getCells H x20p x20l x20o 1 = some [Value.int .i64 x21]) (h4 : ¬(x21 < 0)) (h5 : ¬(x21 ≥ (↑x0n : Int))) (h6 : Fit .i64 (x18 + 1)) : lpOf cfg a22 1 prot H0 ([.slice x0a x0n x0c, .slice x10a x10n x10c, .int .i64 x11, .int .i64 x12, .slice x16a x16n x16c, .int .i64 x17, .int .i64 x18], H) = some (Sum.inl ([Value.slice x0a x0n x0c, Value.slice x10a x10n x10c, Value.int .i64 x11, Value.int .i64 x12, Value.slice x16a x16n x16c, Value.int .i64 x17, Value.int .i64 (x18 + 1)], H)) :=
  lp_of2 [.e, .b true, .v (.pointer (some ⟨x20p, x20o, some x20l⟩)), .v (.int .i64 x21), .e, .b false, .b false, .b false, .e, .b false, .e, .b false, .b false, .e] (ai (decide_eq_true h1) (ai h2 (ai h3 (ai (decide_eq_false h4) (ai (decide_eq_false h4) (ai (decide_eq_false h4) (ai (decide_eq_false h4) (ai (decide_eq_false h4) (ai (decide_eq_false h5) (ai h6 (Eq.refl (Sum.inl ([Value.slice x0a x0n x0c, Value.slice x10a x10n x10c, Value.int .i64 x11, Value.int .i64 x12, Value.slice x16a x16n x16c, Value.int .i64 x17, Value.int .i64 (x18 + 1)], H) : LS ⊕ LO)))))))))))) (by kernel_rfl)
theorem f22_L1_3 {x0a : Option Addr} {x0n x0c : Nat} {x10a : Option Addr} {x10n x10c : Nat} {x11 x12 : Int} {x16a : Option Addr} {x16n x16c : Nat} {x17 x18 : Int} {H0 : AHeap} {prot : Nat} {H : AHeap} (h1 : ¬(x18 < x17)) : lpOf cfg a22 1 prot H0 ([.slice x0a x0n x0c, .slice x10a x10n x10c, .int .i64 x11, .int .i64 x12, .slice x16a x16n x16c, .int .i64 x17, .int .i64 x18], H) = some (Sum.inr (Ex.exit 2, [Value.slice x0a x0n x0c, Value.tuple { toList := [] }, Value.slice x10a x10n x10c, Value.int .i64 x11, Value.int .i64 x12], H)) :=
  lp_of2 [.e, .b false] (ai (decide_eq_false h1) (Eq.refl (Sum.inr (Ex.exit 2, [Value.slice x0a x0n x0c, Value.tuple { toList := [] }, Value.slice x10a x10n x10c, Value.int .i64 x11, Value.int .i64 x12], H) : LS ⊕ LO))) (by kernel_rfl)
end Go.Proofs.YtkemihfaohkoeaaDoor.Am11d
set_option linter.unusedVariables false
open Go Go.Proofs.YtkemihfaohkoeaaDoor.Am
namespace Go.Proofs.YtkemihfaohkoeaaDoor.Am11d
end Go.Proofs.YtkemihfaohkoeaaDoor.Am11d
namespace Go.Proofs.YtkemihfaohkoeaaDoor.Am11d
open Go Go.Proofs.YtkemihfaohkoeaaDoor.Am
theorem T22 : ElemT cfg.P 22 24 1 24 := ⟨by kernel_rfl, by kernel_rfl, by kernel_rfl, ⟨.slice none 0 0, by kernel_rfl, rfl⟩, by kernel_rfl, by omega, by omega⟩
theorem T34 : ElemT cfg.P 24 3 1 8 := ⟨by kernel_rfl, by kernel_rfl, by kernel_rfl, ⟨.int .i64 0, by kernel_rfl, rfl⟩, by kernel_rfl, by omega, by omega⟩
def il (l : List Int) : List Value := l.map (.int .i64)
theorem il_get {l : List Int} {i : Nat} (h : i < l.length) : (il l)[i]? = some (.int .i64 l[i]) := by simp [il, h]
theorem il_plain (l) : (il l).all plain0 = true := by simp [il, plain0]
/-- A graph that may be read. -/
def Gr (H : AHeap) (v : Value) (G : List (List Int)) : Prop := ∃ cs, Rd H 24 1 v G.length cs ∧ ∀ (i : Nat) (l : List Int), G[i]? = some l → ∃ r, cs[i]? = some r ∧ Rd H 3 1 r l.length (il l)
theorem Gr.stay {H H' : AHeap} {v : Value} {G : List (List Int)} (h : Gr H v G) (s : Stay none H H') : Gr H' v G := by
  obtain ⟨cs, h1, h2⟩ := h
  exact ⟨cs, h1.stay s, fun i l hl => by obtain ⟨r, a, b⟩ := h2 i l hl; exact ⟨r, a, b.stay s⟩⟩
theorem Gr.len {H : AHeap} {v : Value} {G : List (List Int)} (h : Gr H v G) : ∃ a c, v = .slice a G.length c := by
  obtain ⟨cs, h1, _⟩ := h
  exact h1.len
theorem Gr.row {H : AHeap} {v : Value} {G : List (List Int)} (h : Gr H v G) {i : Nat} (hi : i < G.length) :
    ∃ id L r, aindexAddr cfg.P 22 v (.int .i64 i) = some (.pointer (some ⟨id, i, some L⟩)) ∧ getCells H id L i 1 = some [r] ∧ Rd H 3 1 r G[i].length (il G[i]) := by
  obtain ⟨cs, h1, h2⟩ := h
  obtain ⟨r, a, b⟩ := h2 i G[i] (List.getElem?_eq_getElem hi)
  obtain ⟨id, L, p, q⟩ := rd_at T22 h1 a
  exact ⟨id, L, r, p, q, b⟩
/-- Lists are not too long. -/
def Short (G : List (List Int)) : Prop := ∀ l ∈ G, l.length ≤ 140737488355328
def bad (n : Nat) (l : List Int) : Bool := l.any fun x => decide (x < 0 ∨ (n : Int) ≤ x)
/-- What Check answers. -/
def chk (G : List (List Int)) : Int := if 512 < G.length then 6 else if G.any (bad G.length) then 11 else 0

theorem loop25i {G : List (List Int)} {x y r : Value} {m j : Int} {H0 H : AHeap} {prot : Nat} {l : List Int} (hl : l.length ≤ 140737488355328) (hx : ∃ a c, x = .slice a G.length c) (hy : ∃ a n c, y = .slice a n c) (hr : Rd H 3 1 r l.length (il l)) : ∀ (d i : Nat), i + d = l.length →
    lpInf (lpOf cfg a22 1 prot H0) ([x, y, .int .i64 m, .int .i64 j, r, .int .i64 l.length, .int .i64 i], H) =
      some (if bad G.length (l.drop i) then (.ret, [x, .int .i64 11, y, .int .i64 m, .int .i64 j], H) else (.exit 2, [x, .tuple #[], y, .int .i64 m, .int .i64 j], H))
  | 0, i, hi => by
    rw [List.drop_of_length_le (by omega)]
    obtain ⟨_, _, rfl⟩ := hx
    obtain ⟨_, _, _, rfl⟩ := hy
    obtain ⟨_, _, rfl⟩ := hr.len
    exact lp_last (f22_L1_3 (by omega))
  | d + 1, i, hi => by
    have hil : i < l.length := by omega
    obtain ⟨id, L, p, q⟩ := rd_at T34 hr (il_get hil)
    have ih := loop25i hl hx hy hr (m := m) (j := j) (H0 := H0) (prot := prot) d (i + 1) (by omega)
    rw [List.drop_eq_getElem_cons hil]
    unfold bad at ih ⊢
    rw [List.any_cons]
    obtain ⟨_, _, rfl⟩ := hx
    obtain ⟨_, _, _, rfl⟩ := hy
    obtain ⟨_, _, rfl⟩ := hr.len
    by_cases h1 : l[i] < 0
    · rw [decide_eq_true (.inl h1), Bool.true_or, if_pos rfl]
      exact lp_last (f22_L1_0 (by omega) p q h1)
    · by_cases h2 : (G.length : Int) ≤ l[i]
      · rw [decide_eq_true (.inr h2), Bool.true_or, if_pos rfl]
        exact lp_last (f22_L1_1 (by omega) p q h1 (by omega))
      · rw [decide_eq_false (by omega), Bool.false_or]
        exact lp_next (f22_L1_2 (by omega) p q h1 (by omega) (fit64 (by omega) (by omega))) ih
theorem loop25o {G : List (List Int)} (hs : Short G) (hn : G.length ≤ 512) {x : Value} {H0 H : AHeap} {prot : Nat} (hx : Gr H x G) : ∀ (d i : Nat), i + d = G.length →
    ∃ e vs, lpInf (lpOf cfg a22 0 prot H0) ([x, x, .int .i64 G.length, .int .i64 i], H) = some (e, vs, H) ∧ ((e = .exit 0 ∧ vs = [.tuple #[]] ∧ (G.drop i).any (bad G.length) = false) ∨ (e = .ret ∧ vs = [.int .i64 11] ∧ (G.drop i).any (bad G.length) = true))
  | 0, i, hi => by
    rw [List.drop_of_length_le (by omega)]
    obtain ⟨_, _, rfl⟩ := hx.len
    exact ⟨_, _, lp_last (f22_L0_2 (by omega)), .inl ⟨rfl, rfl, rfl⟩⟩
  | d + 1, i, hi => by
    have hil : i < G.length := by omega
    obtain ⟨id, L, r, p, q, hr⟩ := hx.row hil
    obtain ⟨e, vs, z1, z2⟩ := loop25o hs hn hx (H0 := H0) (prot := prot) d (i + 1) (by omega)
    have hlp := loop25i (G := G) (hs _ (List.getElem_mem hil)) hx.len (by obtain ⟨a, c, h⟩ := hx.len; exact ⟨a, _, c, h⟩) hr (m := (G.length : Int)) (j := (i : Int)) (H0 := H0) (prot := prot) (G[i]).length 0 (by omega)
    rw [List.drop_zero] at hlp
    rw [List.drop_eq_getElem_cons hil, List.any_cons]
    obtain ⟨_, _, rfl⟩ := hx.len
    obtain ⟨_, _, rfl⟩ := hr.len
    cases hb : bad G.length G[i] with
    | true =>
      rw [hb, if_pos rfl] at hlp
      exact ⟨_, _, lp_last (f22_L0_1 (by omega) p q hlp), .inr ⟨rfl, rfl, rfl⟩⟩
    | false =>
      rw [hb, if_neg (by simp)] at hlp
      exact ⟨e, vs, lp_next (f22_L0_0 (by omega) p q hlp (fit64 (by omega) (by omega))) z1, z2⟩
theorem c25 {G : List (List Int)} (hs : Short G) {x : Value} (prot : Nat) {H : AHeap} (hx : Gr H x G) : callInf cfg 22 [x] prot H = some (.int .i64 (chk G), H) := by
  obtain ⟨a, c, hxe⟩ := hx.len
  unfold chk
  by_cases h : 512 < G.length
  · rw [if_pos h]
    subst hxe
    exact f22_F_0 (by omega)
  · rw [if_neg h]
    obtain ⟨e, vs, z1, z2⟩ := loop25o hs (by omega) hx (H0 := H) (prot := prot) G.length 0 (by omega)
    rw [List.drop_zero] at z2
    subst hxe
    rcases z2 with ⟨rfl, rfl, h3⟩ | ⟨rfl, rfl, h3⟩
    · rw [h3, if_neg (by simp)]
      exact f22_F_1 (by omega) z1
    · rw [h3, if_pos rfl]
      exact f22_F_2 (by omega) z1
/-- A good graph: its edges lead to its vertices. -/
def Good (G : List (List Int)) : Prop := G.length ≤ 512 ∧ Short G ∧ ∀ (i : Nat) (l : List Int) (x : Int), G[i]? = some l → x ∈ l → 0 ≤ x ∧ x < G.length
theorem good_of {G : List (List Int)} (hs : Short G) (h : chk G = 0) : Good G := by
  unfold chk at h
  split at h
  · cases h
  · split at h
    · cases h
    · rename_i h1 h2
      refine ⟨by omega, hs, fun i l x hl hx => ?_⟩
      have h3 : G.any (bad G.length) = false := by simpa using h2
      rw [List.any_eq_false] at h3
      have h4 := h3 l (List.mem_of_getElem? hl)
      have h5 : bad G.length l = false := by simpa using h4
      unfold bad at h5
      rw [List.any_eq_false] at h5
      have h6 := h5 x hx
      simp at h6
      omega
end Go.Proofs.YtkemihfaohkoeaaDoor.Am11d
namespace Go.Proofs.YtkemihfaohkoeaaDoor.Am11d
/-! Ways in a graph; what is marked depth first. -/
def sc (G : List (List Int)) (v : Nat) : List Nat := (G.getD v []).map Int.toNat
/-- A way that is not empty. -/
inductive Rch (G : List (List Int)) : Nat → Nat → Prop
  | one {v u : Nat} : u ∈ sc G v → Rch G v u
  | step {v w u : Nat} : Rch G v w → u ∈ sc G w → Rch G v u
theorem Rch.trans {G : List (List Int)} {a b c : Nat} (h : Rch G a b) (k : Rch G b c) : Rch G a c := by
  induction k with
  | one e => exact .step h e
  | step _ e ih => exact .step ih e
def at_ (M : List Bool) (u : Nat) : Bool := M.getD u false
theorem at_set {M : List Bool} {u x : Nat} (hu : u < M.length) : at_ (M.set u true) x = (decide (x = u) || at_ M x) := by
  unfold at_
  by_cases h : x = u
  · subst h; simp [List.getD_eq_getElem?_getD, hu]
  · rw [List.getD_eq_getElem?_getD, List.getElem?_set_ne (fun e => h e.symm), ← List.getD_eq_getElem?_getD]; simp [h]
def unm (M : List Bool) : Nat := M.countP (!·)
theorem unm_set : ∀ (m : List Bool) (t : Nat), t < m.length → at_ m t = false → unm (m.set t true) + 1 = unm m
  | [], t, h, _ => by simp at h
  | b :: m, 0, _, hb => by
    have : b = false := by simpa [at_] using hb
    subst this
    simp [unm]
  | b :: m, t + 1, h, hb => by
    have ih := unm_set m t (by simpa using h) (by simpa [at_] using hb)
    unfold unm at ih ⊢
    rw [List.set_cons_succ, List.countP_cons, List.countP_cons]
    omega
theorem unm_mono : ∀ {a b : List Bool}, a.length = b.length → (∀ x, at_ a x = true → at_ b x = true) → unm b ≤ unm a
  | [], [], _, _ => Nat.le_refl _
  | x :: a, y :: b, hl, h => by
    have ih := unm_mono (a := a) (b := b) (by simpa using hl) (fun i hi => by have := h (i + 1) (by simpa [at_] using hi); simpa [at_] using this)
    have h0 := h 0
    unfold unm at ih ⊢
    rw [List.countP_cons, List.countP_cons]
    cases x <;> cases y <;> simp [at_] at h0 ⊢ <;> omega
  | [], _ :: _, hl, _ => by simp at hl
  | _ :: _, [], hl, _ => by simp at hl
/-- What a walk from a vertex has done, of which the first i neighbours are through. -/
structure Post (G : List (List Int)) (M : List Bool) (v i : Nat) (M' : List Bool) : Prop where
  len : M'.length = M.length
  mono : ∀ x, at_ M x = true → at_ M' x = true
  sound : ∀ x, at_ M' x = true → at_ M x = true ∨ Rch G v x
  nb : ∀ j u, j < i → (sc G v)[j]? = some u → at_ M' u = true
  closed : ∀ x, at_ M' x = true → at_ M x = false → ∀ w ∈ sc G x, at_ M' w = true
theorem Post.start (G : List (List Int)) (M : List Bool) (v : Nat) : Post G M v 0 M := ⟨rfl, fun _ h => h, fun _ h => .inl h, fun _ _ h => by omega, fun x h1 h2 => by rw [h1] at h2; cases h2⟩
theorem Post.skip {G : List (List Int)} {M M1 : List Bool} {v i u : Nat} (h : Post G M v i M1) (hu : (sc G v)[i]? = some u) (hm : at_ M1 u = true) : Post G M v (i + 1) M1 :=
  ⟨h.len, h.mono, h.sound, fun j w hj hw => by
    by_cases e : j = i
    · subst e; rw [hu] at hw; cases hw; exact hm
    · exact h.nb j w (by omega) hw, h.closed⟩
theorem Post.down {G : List (List Int)} {M M1 M2 : List Bool} {v i u : Nat} (h : Post G M v i M1) (hu : (sc G v)[i]? = some u) (hul : u < M1.length) (k : Post G (M1.set u true) u (sc G u).length M2) : Post G M v (i + 1) M2 := by
  have hset := fun x => at_set (M := M1) (u := u) (x := x) hul
  have hmem : u ∈ sc G v := List.mem_of_getElem? hu
  have hu2 : at_ M2 u = true := k.mono u (by rw [hset]; simp)
  have up : ∀ x, at_ M1 x = true → at_ M2 x = true := fun x hx => k.mono x (by rw [hset, hx, Bool.or_true])
  refine ⟨by rw [k.len, List.length_set]; exact h.len, fun x hx => up x (h.mono x hx), fun x hx => ?_, fun j w hj hw => ?_, fun x hx hn w hw => ?_⟩
  · rcases k.sound x hx with h1 | h1
    · rw [hset, Bool.or_eq_true, decide_eq_true_eq] at h1
      rcases h1 with rfl | h1
      · exact .inr (.one hmem)
      · exact h.sound x h1
    · exact .inr ((Rch.one hmem).trans h1)
  · by_cases e : j = i
    · subst e; rw [hu] at hw; cases hw; exact hu2
    · exact up w (h.nb j w (by omega) hw)
  · by_cases h1 : at_ M1 x = true
    · exact up w (h.closed x h1 hn w hw)
    · by_cases e : x = u
      · subst e
        obtain ⟨j, hj, rfl⟩ := List.getElem_of_mem hw
        exact k.nb j _ hj (List.getElem?_eq_getElem hj)
      · exact k.closed x hx (by rw [hset]; simp [e, h1]) w hw
/-- From nothing: just what is reached. -/
theorem Post.all {G : List (List Int)} {n v : Nat} {M : List Bool} (h : Post G (List.replicate n false) v (sc G v).length M) (x : Nat) : at_ M x = true ↔ Rch G v x := by
  have hz : ∀ x, at_ (List.replicate n false) x = false := fun x => by
    unfold at_
    rw [List.getD_eq_getElem?_getD, List.getElem?_replicate]
    split <;> rfl
  constructor
  · intro hx
    rcases h.sound x hx with h1 | h1
    · rw [hz] at h1; cases h1
    · exact h1
  · intro hr
    induction hr with
    | one e =>
      obtain ⟨j, hj, rfl⟩ := List.getElem_of_mem e
      exact h.nb j _ hj (List.getElem?_eq_getElem hj)
    | step _ e ih => exact h.closed _ ih (hz _) _ e
end Go.Proofs.YtkemihfaohkoeaaDoor.Am11d
set_option linter.unusedVariables false
open Go Go.Proofs.YtkemihfaohkoeaaDoor.Am
namespace Go.Proofs.YtkemihfaohkoeaaDoor.Am11d
theorem f36_F_0 {x0a : Option Addr} {x0n x0c : Nat} {x1 : Int} {H : AHeap} {prot : Nat} {x7 : Array Value} {H1 H2 : AHeap} {x10ap x10ao x10al x10bp x10bo x10bl x10cp x10co x10cl : Nat} {H3 : AHeap} {x13p x13o x13l : Nat} (h1 : [Value.slice x0a x0n x0c].all isCell = true) (h2 : abuild cfg.P 76 [] = some (Value.agg x7)) (h3 : x7.toList.all isCell = true) (h4 : [Value.pointer (some ⟨List.length (H ++ [vo [Value.slice x0a x0n x0c] 22]), 0, some x7.toList.length⟩)].length = 1) (h5 : setCells (H ++ [vo [Value.slice x0a x0n x0c] 22] ++ [AObj.cells x7.toList 76 x7.toList.length OMode.var] ++ [vo [Value.pointer none] 66]) (List.length H) (List.length (H ++ [vo [Value.slice x0a x0n x0c] 22] ++ [AObj.cells x7.toList 76 x7.toList.length OMode.var])) [Value.pointer none].length 0 [Value.pointer (some ⟨List.length (H ++ [vo [Value.slice x0a x0n x0c] 22]), 0, some x7.toList.length⟩)] = some H1) (h6 : [Value.func (Fn.func 44) { toList := [] } { toList := [Value.pointer (some ⟨List.length H, 0, some [Value.slice x0a x0n x0c].length⟩), Value.pointer (some ⟨List.length (H ++ [vo [Value.slice x0a x0n x0c] 22] ++ [AObj.cells x7.toList 76 x7.toList.length OMode.var]), 0, some [Value.pointer none].length⟩), Value.pointer (some ⟨List.length H1, 0, some [Value.nilFunc].length⟩)] }].length = 1) (h7 : setCells (H1 ++ [vo [Value.nilFunc] 77]) (List.length H) (List.length H1) [Value.nilFunc].length 0 [Value.func (Fn.func 44) { toList := [] } { toList := [Value.pointer (some ⟨List.length H, 0, some [Value.slice x0a x0n x0c].length⟩), Value.pointer (some ⟨List.length (H ++ [vo [Value.slice x0a x0n x0c] 22] ++ [AObj.cells x7.toList 76 x7.toList.length OMode.var]), 0, some [Value.pointer none].length⟩), Value.pointer (some ⟨List.length H1, 0, some [Value.nilFunc].length⟩)] }] = some H2) (h8 : getCells H2 (List.length H1) [Value.nilFunc].length 0 1 = some [Value.func (Fn.func 44) { toList := [] } { toList := [Value.pointer (some ⟨x10ap, x10ao, some x10al⟩), Value.pointer (some ⟨x10bp, x10bo, some x10bl⟩), Value.pointer (some ⟨x10cp, x10co, some x10cl⟩)] }]) (h9 : callInf cfg 44 [Value.int .i64 x1, Value.pointer (some ⟨x10ap, x10ao, some x10al⟩), Value.pointer (some ⟨x10bp, x10bo, some x10bl⟩), Value.pointer (some ⟨x10cp, x10co, some x10cl⟩)] (List.length H) H2 = some (Value.tuple { toList := [] }, H3)) (h10 : getCells H3 (List.length (H ++ [vo [Value.slice x0a x0n x0c] 22] ++ [AObj.cells x7.toList 76 x7.toList.length OMode.var])) [Value.pointer none].length 0 1 = some [Value.pointer (some ⟨x13p, x13o, some x13l⟩)]) : callInf cfg 36 [.slice x0a x0n x0c, .int .i64 x1] prot H = some (Value.pointer (some ⟨x13p, x13o, some x13l⟩), H3) :=
  fn_of2 a36 [.e, .v (.agg x7), .e, .e, .h H1, .e, .h H2, .v (.func (.func 44) #[] #[.pointer (some ⟨x10ap, x10ao, some x10al⟩), .pointer (some ⟨x10bp, x10bo, some x10bl⟩), .pointer (some ⟨x10cp, x10co, some x10cl⟩)]), .r (.tuple #[]) H3, .v (.pointer (some ⟨x13p, x13o, some x13l⟩))] (ai h1 (ai h2 (ai h3 (ai h4 (ai h5 (ai h6 (ai h7 (ai h8 (ai h9 (ai h10 (Eq.refl ((Value.pointer (some ⟨x13p, x13o, some x13l⟩), H3) : Value × AHeap)))))))))))) (by kernel_rfl) rfl
end Go.Proofs.YtkemihfaohkoeaaDoor.Am11d
set_option linter.unusedVariables false
open Go Go.Proofs.YtkemihfaohkoeaaDoor.Am
namespace Go.Proofs.YtkemihfaohkoeaaDoor.Am11d
theorem f44_F_0 {x0 : Int} {x1p x1o x1l x2p x2o x2l x3p x3o x3l : Nat} {H : AHeap} {prot : Nat} {x7a : Option Addr} {x7n x7c x9p x9o x9l : Nat} {x10a : Option Addr} {x10n x10c : Nat} {H1 : AHeap} (h1 : getCells H x1p x1l x1o 1 = some [Value.slice x7a x7n x7c]) (h2 : aindexAddr cfg.P 22 (Value.slice x7a x7n x7c) (Value.int .i64 x0) = some (Value.pointer (some ⟨x9p, x9o, some x9l⟩))) (h3 : getCells H x9p x9l x9o 1 = some [Value.slice x10a x10n x10c]) (h4 : lpInf (lpOf cfg a44 0 prot H) ([Value.pointer (some ⟨x2p, x2o, some x2l⟩), Value.pointer (some ⟨x3p, x3o, some x3l⟩), Value.slice x10a x10n x10c, Value.int .i64 (↑x10n : Int), Value.int .i64 0], H) = some (Ex.exit 0, [], H1)) : callInf cfg 44 [.int .i64 x0, .pointer (some ⟨x1p, x1o, some x1l⟩), .pointer (some ⟨x2p, x2o, some x2l⟩), .pointer (some ⟨x3p, x3o, some x3l⟩)] prot H = some (Value.tuple { toList := [] }, H1) :=
  fn_of2 a44 [.v (.slice x7a x7n x7c), .v (.pointer (some ⟨x9p, x9o, some x9l⟩)), .v (.slice x10a x10n x10c), .e, .lo (.exit 0, [], H1)] (ai h1 (ai h2 (ai h3 (ai h4 (Eq.refl ((Value.tuple { toList := [] }, H1) : Value × AHeap)))))) (by kernel_rfl) rfl
theorem f44_L0_0 {x2p x2o x2l x3p x3o x3l : Nat} {x10a : Option Addr} {x10n x10c : Nat} {x11 x12 : Int} {H0 : AHeap} {prot : Nat} {H : AHeap} {x14p x14o x14l : Nat} {x15 : Int} {x16p x16o x16l : Nat} {x20 : Bool} (h1 : x12 < x11) (h2 : aindexAddr cfg.P 24 (Value.slice x10a x10n x10c) (Value.int .i64 x12) = some (Value.pointer (some ⟨x14p, x14o, some x14l⟩))) (h3 : getCells H x14p x14l x14o 1 = some [Value.int .i64 x15]) (h4 : getCells H x2p x2l x2o 1 = some [Value.pointer (some ⟨x16p, x16o, some x16l⟩)]) (h5 : 0 ≤ x15) (h6 : x15 < (↑512 : Int)) (h7 : getCells H x16p x16l (x16o + x15.toNat * 1) 1 = some [Value.bool x20]) (h8 : (!x20) = false) (h9 : Fit .i64 (x12 + 1)) : lpOf cfg a44 0 prot H0 ([.pointer (some ⟨x2p, x2o, some x2l⟩), .pointer (some ⟨x3p, x3o, some x3l⟩), .slice x10a x10n x10c, .int .i64 x11, .int .i64 x12], H) = some (Sum.inl ([Value.pointer (some ⟨x2p, x2o, some x2l⟩), Value.pointer (some ⟨x3p, x3o, some x3l⟩), Value.slice x10a x10n x10c, Value.int .i64 x11, Value.int .i64 (x12 + 1)], H)) :=
  lp_of2 [.e, .b true, .v (.pointer (some ⟨x14p, x14o, some x14l⟩)), .v (.int .i64 x15), .v (.pointer (some ⟨x16p, x16o, some x16l⟩)), .e, .v (.bool x20), .e, .b false, .e] (ai (decide_eq_true h1) (ai h2 (ai h3 (ai h4 (ai h5 (ai h6 (ai h7 (ai h8 (ai h9 (Eq.refl (Sum.inl ([Value.pointer (some ⟨x2p, x2o, some x2l⟩), Value.pointer (some ⟨x3p, x3o, some x3l⟩), Value.slice x10a x10n x10c, Value.int .i64 x11, Value.int .i64 (x12 + 1)], H) : LS ⊕ LO))))))))))) (by kernel_rfl)
theorem f44_L0_1 {x2p x2o x2l x3p x3o x3l : Nat} {x10a : Option Addr} {x10n x10c : Nat} {x11 x12 : Int} {H0 : AHeap} {prot : Nat} {H : AHeap} {x14p x14o x14l : Nat} {x15 : Int} {x16p x16o x16l : Nat} {x20 : Bool} {x22p x22o x22l : Nat} {H2 : AHeap} {x26ap x26ao x26al x26bp x26bo x26bl x26cp x26co x26cl : Nat} {H3 : AHeap} (h1 : x12 < x11) (h2 : aindexAddr cfg.P 24 (Value.slice x10a x10n x10c) (Value.int .i64 x12) = some (Value.pointer (some ⟨x14p, x14o, some x14l⟩))) (h3 : getCells H x14p x14l x14o 1 = some [Value.int .i64 x15]) (h4 : getCells H x2p x2l x2o 1 = some [Value.pointer (some ⟨x16p, x16o, some x16l⟩)]) (h5 : 0 ≤ x15) (h6 : x15 < (↑512 : Int)) (h7 : getCells H x16p x16l (x16o + x15.toNat * 1) 1 = some [Value.bool x20]) (h8 : (!x20) = true) (h9 : getCells H x2p x2l x2o 1 = some [Value.pointer (some ⟨x22p, x22o, some x22l⟩)]) (h10 : [Value.bool true].length = 1) (h11 : setCells H prot x22p x22l (x22o + x15.toNat * 1) [Value.bool true] = some H2) (h12 : getCells H2 x3p x3l x3o 1 = some [Value.func (Fn.func 44) { toList := [] } { toList := [Value.pointer (some ⟨x26ap, x26ao, some x26al⟩), Value.pointer (some ⟨x26bp, x26bo, some x26bl⟩), Value.pointer (some ⟨x26cp, x26co, some x26cl⟩)] }]) (h13 : callInf cfg 44 [Value.int .i64 x15, Value.pointer (some ⟨x26ap, x26ao, some x26al⟩), Value.pointer (some ⟨x26bp, x26bo, some x26bl⟩), Value.pointer (some ⟨x26cp, x26co, some x26cl⟩)] prot H2 = some (Value.tuple { toList := [] }, H3)) (h14 : Fit .i64 (x12 + 1)) : lpOf cfg a44 0 prot H0 ([.pointer (some ⟨x2p, x2o, some x2l⟩), .pointer (some ⟨x3p, x3o, some x3l⟩), .slice x10a x10n x10c, .int .i64 x11, .int .i64 x12], H) = some (Sum.inl ([Value.pointer (some ⟨x2p, x2o, some x2l⟩), Value.pointer (some ⟨x3p, x3o, some x3l⟩), Value.slice x10a x10n x10c, Value.int .i64 x11, Value.int .i64 (x12 + 1)], H3)) :=
  lp_of2 [.e, .b true, .v (.pointer (some ⟨x14p, x14o, some x14l⟩)), .v (.int .i64 x15), .v (.pointer (some ⟨x16p, x16o, some x16l⟩)), .e, .v (.bool x20), .e, .b true, .v (.pointer (some ⟨x22p, x22o, some x22l⟩)), .e, .h H2, .v (.func (.func 44) #[] #[.pointer (some ⟨x26ap, x26ao, some x26al⟩), .pointer (some ⟨x26bp, x26bo, some x26bl⟩), .pointer (some ⟨x26cp, x26co, some x26cl⟩)]), .r (.tuple #[]) H3, .e] (ai (decide_eq_true h1) (ai h2 (ai h3 (ai h4 (ai h5 (ai h6 (ai h7 (ai h8 (ai h9 (ai h5 (ai h6 (ai h10 (ai h11 (ai h12 (ai h13 (ai h14 (Eq.refl (Sum.inl ([Value.pointer (some ⟨x2p, x2o, some x2l⟩), Value.pointer (some ⟨x3p, x3o, some x3l⟩), Value.slice x10a x10n x10c, Value.int .i64 x11, Value.int .i64 (x12 + 1)], H3) : LS ⊕ LO)))))))))))))))))) (by kernel_rfl)
theorem f44_L0_2 {x2p x2o x2l x3p x3o x3l : Nat} {x10a : Option Addr} {x10n x10c : Nat} {x11 x12 : Int} {H0 : AHeap} {prot : Nat} {H : AHeap} (h1 : ¬(x12 < x11)) : lpOf cfg a44 0 prot H0 ([.pointer (some ⟨x2p, x2o, some x2l⟩), .pointer (some ⟨x3p, x3o, some x3l⟩), .slice x10a x10n x10c, .int .i64 x11, .int .i64 x12], H) = some (Sum.inr (Ex.exit 0, [], H)) :=
  lp_of2 [.e, .b false] (ai (decide_eq_false h1) (Eq.refl (Sum.inr (Ex.exit 0, [], H) : LS ⊕ LO))) (by kernel_rfl)
end Go.Proofs.YtkemihfaohkoeaaDoor.Am11d
namespace Go.Proofs.YtkemihfaohkoeaaDoor.Am11d
open Go Go.Proofs.YtkemihfaohkoeaaDoor.Am
theorem bd77 : abuild cfg.P 76 [] = some (.agg ⟨List.replicate 512 (.bool false)⟩) := by kernel_rfl
def bll (l : List Bool) : List Value := l.map .bool
abbrev f47 (p1 p2 p3 : Nat) : Value := .func (.func 44) #[] #[.pointer (some ⟨p1, 0, some 1⟩), .pointer (some ⟨p2, 0, some 1⟩), .pointer (some ⟨p3, 0, some 1⟩)]
theorem sc_get {G : List (List Int)} (hG : Good G) {v : Nat} (hv : v < G.length) {i : Nat} (hi : i < G[v].length) : ∃ u : Nat, G[v][i] = (u : Int) ∧ u < G.length ∧ (sc G v)[i]? = some u := by
  have h := hG.2.2 v G[v] G[v][i] (List.getElem?_eq_getElem hv) (List.getElem_mem hi)
  refine ⟨G[v][i].toNat, by omega, by omega, ?_⟩
  unfold sc
  rw [List.getD_eq_getElem?_getD, List.getElem?_eq_getElem hv, Option.getD_some, List.getElem?_map, List.getElem?_eq_getElem hi]
  rfl
theorem sc_len {G : List (List Int)} {v : Nat} (hv : v < G.length) : (sc G v).length = G[v].length := by
  unfold sc
  rw [List.length_map, List.getD_eq_getElem?_getD, List.getElem?_eq_getElem hv]; rfl

structure W47 (G0 H : AHeap) (vG : Value) (p1 p2 p3 pm : Nat) (M : List Bool) : Prop where
  g1 : H[p1]? = some (.cells [vG] 22 1 .var)
  g2 : H[p2]? = some (.cells [.pointer (some ⟨pm, 0, some 512⟩)] 66 1 .var)
  g3 : H[p3]? = some (.cells [f47 p1 p2 p3] 77 1 .var)
  gm : H[pm]? = some (.cells (bll M) 76 512 .var)
  ml : M.length = 512
  st : Stay none G0 H
theorem one_get {H : AHeap} {p e : Nat} {v : Value} {md : OMode} (h : H[p]? = some (.cells [v] e 1 md)) : getCells H p 1 0 1 = some [v] := by
  unfold getCells
  rw [h]
  rfl
theorem at_get {M : List Bool} {u : Nat} (h : u < M.length) : (bll M)[u]? = some (.bool (at_ M u)) := by
  unfold bll at_
  rw [List.getElem?_map, List.getElem?_eq_getElem h, List.getD_eq_getElem?_getD, List.getElem?_eq_getElem h]; rfl

theorem loop47 {G : List (List Int)} (hG : Good G) {G0 : AHeap} {vG : Value} (hg : Gr G0 vG G) {p1 p2 p3 pm prot : Nat} (hpm : G0.length ≤ pm) (hd1 : p1 ≠ pm) (hd2 : p2 ≠ pm) (hd3 : p3 ≠ pm) (hp : prot ≤ pm) {v : Nat} (hv : v < G.length) {M : List Bool} (hM : M.length = 512)
    (ih : ∀ (M1 : List Bool) (u : Nat) (H : AHeap), unm M1 < unm M → u < G.length → W47 G0 H vG p1 p2 p3 pm M1 →
      ∃ M2 H', callInf cfg 44 [.int .i64 u, .pointer (some ⟨p1, 0, some 1⟩), .pointer (some ⟨p2, 0, some 1⟩), .pointer (some ⟨p3, 0, some 1⟩)] prot H = some (.tuple #[], H') ∧ W47 G0 H' vG p1 p2 p3 pm M2 ∧ Post G M1 u (sc G u).length M2 ∧ Stay (some pm) H H' ∧ H'.length = H.length)
    {H0 : AHeap} {r : Value} (hr : Rd G0 3 1 r G[v].length (il G[v])) : ∀ (d i : Nat) (M1 : List Bool) (H : AHeap), i + d = G[v].length → W47 G0 H vG p1 p2 p3 pm M1 → Post G M v i M1 →
    ∃ M2 H', lpInf (lpOf cfg a44 0 prot H0) ([.pointer (some ⟨p2, 0, some 1⟩), .pointer (some ⟨p3, 0, some 1⟩), r, .int .i64 G[v].length, .int .i64 i], H) = some (.exit 0, [], H') ∧ W47 G0 H' vG p1 p2 p3 pm M2 ∧ Post G M v (sc G v).length M2 ∧ Stay (some pm) H H' ∧ H'.length = H.length
  | 0, i, M1, H, hi, hw, hpo => by
    have he : i = (sc G v).length := by rw [sc_len hv]; omega
    subst he
    obtain ⟨_, _, hre⟩ := hr.len
    refine ⟨M1, H, ?_, hw, hpo, Stay.refl _ _, rfl⟩
    rw [hre]
    exact lp_last (f44_L0_2 (by omega))
  | d + 1, i, M1, H, hi, hw, hpo => by
    have hn := hG.1
    have hs := hG.2.1 _ (List.getElem_mem hv)
    have hil : i < G[v].length := by omega
    obtain ⟨u, e1, hu, hsc⟩ := sc_get hG hv hil
    have hrH := hr.stay hw.st
    obtain ⟨id, L, p, q⟩ := rd_at T34 hrH (il_get hil)
    rw [e1] at q
    have hu512 : u < M1.length := by rw [hw.ml]; omega
    have g2 := one_get hw.g2
    have gm := arr_get hw.gm (by simp [bll, hw.ml]) (at_get hu512)
    have fi : Fit .i64 ((i : Int) + 1) := fit64 (by omega) (by omega)
    obtain ⟨ar, cr, hre⟩ := hr.len
    by_cases hm : at_ M1 u = true
    · rw [hm] at gm
      obtain ⟨M2, H', z1, z2, z3, z4, z5⟩ := loop47 hG hg hpm hd1 hd2 hd3 hp hv hM ih hr (H0 := H0) d (i + 1) M1 H (by omega) hw (hpo.skip hsc hm)
      refine ⟨M2, H', ?_, z2, z3, z4, z5⟩
      rw [hre] at p z1 ⊢
      exact lp_next (f44_L0_0 (by omega) p q g2 (by omega) (by omega) gm rfl fi) z1
    · have hm : at_ M1 u = false := by simpa using hm
      rw [hm] at gm
      obtain ⟨H2, hH2⟩ : ∃ H2, H2 = H.set pm (.cells (bll (M1.set u true)) 76 512 .var) := ⟨_, rfl⟩
      have hset : setCells H prot pm 512 (0 + u * 1) [.bool true] = some H2 := by
        rw [hH2, show bll (M1.set u true) = (bll M1).set u (.bool true) by simp [bll, List.map_set]]
        exact arr_set hw.gm (by simp [bll, hw.ml]) hp (by omega) rfl
      have s2 : Stay (some pm) H H2 := by rw [hH2]; exact set_stay
      have hpml := (List.getElem?_eq_some_iff.1 hw.gm).1
      have hw2 : W47 G0 H2 vG p1 p2 p3 pm (M1.set u true) :=
        ⟨by rw [s2.2 _ (List.getElem?_eq_some_iff.1 hw.g1).1 (fun e => hd1 (Option.some.inj e).symm)]; exact hw.g1, by rw [s2.2 _ (List.getElem?_eq_some_iff.1 hw.g2).1 (fun e => hd2 (Option.some.inj e).symm)]; exact hw.g2,
         by rw [s2.2 _ (List.getElem?_eq_some_iff.1 hw.g3).1 (fun e => hd3 (Option.some.inj e).symm)]; exact hw.g3, by rw [hH2, List.getElem?_set_self hpml], by rw [List.length_set]; exact hw.ml, hw.st.over s2 (fun id e => by cases e; exact hpm)⟩
      have hlt : unm (M1.set u true) < unm M := by
        have h1 := unm_set M1 u hu512 hm
        have h2 := unm_mono hpo.len.symm hpo.mono
        omega
      obtain ⟨M2, H3, c1, c2, c3, c4, c5⟩ := ih (M1.set u true) u H2 hlt hu hw2
      obtain ⟨M3, H', z1, z2, z3, z4, z5⟩ := loop47 hG hg hpm hd1 hd2 hd3 hp hv hM ih hr (H0 := H0) d (i + 1) M2 H3 (by omega) c2 (hpo.down hsc hu512 c3)
      have l2 : H2.length = H.length := by rw [hH2]; simp
      refine ⟨M3, H', ?_, z2, z3, (s2.trans c4).trans z4, by omega⟩
      have g3 := one_get hw2.g3
      rw [hre] at p z1 ⊢
      exact lp_next (f44_L0_1 (by omega) p q g2 (by omega) (by omega) gm rfl g2 rfl hset g3 c1 fi) z1

theorem c47 {G : List (List Int)} (hG : Good G) {G0 : AHeap} {vG : Value} (hg : Gr G0 vG G) {p1 p2 p3 pm prot : Nat} (hpm : G0.length ≤ pm) (hd1 : p1 ≠ pm) (hd2 : p2 ≠ pm) (hd3 : p3 ≠ pm) (hp : prot ≤ pm) : ∀ (N : Nat) (M : List Bool) (v : Nat) (H : AHeap), unm M < N → v < G.length → W47 G0 H vG p1 p2 p3 pm M →
    ∃ M2 H', callInf cfg 44 [.int .i64 v, .pointer (some ⟨p1, 0, some 1⟩), .pointer (some ⟨p2, 0, some 1⟩), .pointer (some ⟨p3, 0, some 1⟩)] prot H = some (.tuple #[], H') ∧ W47 G0 H' vG p1 p2 p3 pm M2 ∧ Post G M v (sc G v).length M2 ∧ Stay (some pm) H H' ∧ H'.length = H.length
  | 0, M, v, H, hN, hv, hw => by omega
  | N + 1, M, v, H, hN, hv, hw => by
    have hgH := hg.stay hw.st
    obtain ⟨cs, r1, r2⟩ := hg
    obtain ⟨r, ra, rb⟩ := r2 v G[v] (List.getElem?_eq_getElem hv)
    obtain ⟨id, L, p, q⟩ := rd_at T22 (r1.stay hw.st) ra
    obtain ⟨M2, H', z1, z2, z3, z4, z5⟩ := loop47 hG ⟨cs, r1, r2⟩ hpm hd1 hd2 hd3 hp hv hw.ml (fun M1 u H1 h1 h2 h3 => c47 hG ⟨cs, r1, r2⟩ hpm hd1 hd2 hd3 hp N M1 u H1 (by omega) h2 h3) (H0 := H) rb G[v].length 0 M H (by omega) hw (Post.start G M v)
    refine ⟨M2, H', ?_, z2, z3, z4, z5⟩
    have g1 := one_get hw.g1
    obtain ⟨_, _, hre⟩ := rb.len
    obtain ⟨_, _, hge⟩ := hgH.len
    rw [hre] at q z1
    rw [hge] at g1 p
    exact f44_F_0 g1 p q z1

/-- What is reached by ways that are not empty, in an array of marks. -/
theorem c39 {G : List (List Int)} (hG : Good G) {vG : Value} (prot : Nat) {H : AHeap} (hg : Gr H vG G) {v : Nat} (hv : v < G.length) :
    ∃ pm M H', callInf cfg 36 [vG, .int .i64 v] prot H = some (.pointer (some ⟨pm, 0, some 512⟩), H') ∧ H'[pm]? = some (.cells (bll M) 76 512 .var) ∧ M.length = 512 ∧ (∀ x, at_ M x = true ↔ Rch G v x) ∧ Stay none H H' ∧ H.length ≤ pm := by
  obtain ⟨aG, cG, rfl⟩ := hg.len
  obtain ⟨HA, hHA⟩ : ∃ HA, HA = H ++ [vo [.slice aG G.length cG] 22] := ⟨_, rfl⟩
  obtain ⟨HB, hHB⟩ : ∃ HB, HB = HA ++ [AObj.cells (List.replicate 512 (Value.bool false)) 76 (List.replicate 512 (Value.bool false)).length .var] := ⟨_, rfl⟩
  obtain ⟨HC, hHC⟩ : ∃ HC, HC = HB ++ [vo [.pointer none] 66] := ⟨_, rfl⟩
  have lA : HA.length = H.length + 1 := by rw [hHA]; simp
  have lB : HB.length = H.length + 2 := by rw [hHB, List.length_append, List.length_singleton]; omega
  have lC : HC.length = H.length + 3 := by rw [hHC, List.length_append, List.length_singleton]; omega
  have sA : Stay none H HA := by rw [hHA]; exact Stay.app none H _
  have sB : Stay none HA HB := by rw [hHB]; exact Stay.app none HA _
  have sC : Stay none HB HC := by rw [hHC]; exact Stay.app none HB _
  have gA : HC[H.length]? = some (.cells [.slice aG G.length cG] 22 1 .var) := by
    rw [sC.2 _ (by omega) (by simp), sB.2 _ (by omega) (by simp), hHA]; exact append_get.1
  have gB : HC[HA.length]? = some (.cells (List.replicate 512 (Value.bool false)) 76 512 .var) := by
    rw [sC.2 _ (by omega) (by simp), hHB, append_get.1, List.length_replicate]
  have gC : HC[HB.length]? = some (.cells [.pointer none] 66 1 .var) := by rw [hHC]; exact append_get.1
  obtain ⟨H1, hH1⟩ : ∃ H1, H1 = HC.set HB.length (.cells [.pointer (some ⟨HA.length, 0, some 512⟩)] 66 1 .var) := ⟨_, rfl⟩
  have s1 : Stay (some HB.length) HC H1 := by rw [hH1]; exact set_stay
  have l1 : H1.length = H.length + 3 := by rw [hH1, List.length_set, lC]
  have e1 : setCells HC H.length HB.length 1 0 [.pointer (some ⟨HA.length, 0, some (List.replicate 512 (Value.bool false)).length⟩)] = some H1 := by
    rw [hH1, List.length_replicate]; exact arr_put gC rfl (by omega) rfl rfl
  obtain ⟨HD, hHD⟩ : ∃ HD, HD = H1 ++ [vo [.nilFunc] 77] := ⟨_, rfl⟩
  have sD : Stay none H1 HD := by rw [hHD]; exact Stay.app none H1 _
  have lD : HD.length = H.length + 4 := by rw [hHD, List.length_append, List.length_singleton]; omega
  have gD : HD[H1.length]? = some (.cells [.nilFunc] 77 1 .var) := by rw [hHD]; exact append_get.1
  obtain ⟨H2, hH2⟩ : ∃ H2, H2 = HD.set H1.length (.cells [f47 H.length HB.length H1.length] 77 1 .var) := ⟨_, rfl⟩
  have s2 : Stay (some H1.length) HD H2 := by rw [hH2]; exact set_stay
  have l2 : H2.length = H.length + 4 := by rw [hH2, List.length_set, lD]
  have e2 : setCells HD H.length H1.length 1 0 [f47 H.length HB.length H1.length] = some H2 := by
    rw [hH2]; exact arr_put gD rfl (by omega) rfl rfl
  have stAll : Stay none H H2 := ((((sA.trans sB).trans sC).over s1 (fun id e => by have := Option.some.inj e; omega)).trans sD).over s2 (fun id e => by have := Option.some.inj e; omega)
  have hcarry : ∀ q o, q < H.length + 3 → q ≠ HB.length → HC[q]? = some o → H2[q]? = some o := fun q o hq hne h => by
    rw [s2.2 q (by omega) (fun e => by have := Option.some.inj e; omega), sD.2 q (by omega) (by simp), s1.2 q (by omega) (fun e => hne (Option.some.inj e).symm)]; exact h
  obtain ⟨M0, hM0⟩ : ∃ M0, M0 = List.replicate 512 false := ⟨_, rfl⟩
  have hw : W47 H H2 (.slice aG G.length cG) H.length HB.length H1.length HA.length M0 := by
    refine ⟨hcarry _ _ (by omega) (by omega) gA, ?_, ?_, ?_, by rw [hM0]; exact List.length_replicate, stAll⟩
    · rw [s2.2 _ (by omega) (fun e => by have := Option.some.inj e; omega), sD.2 _ (by omega) (by simp), hH1, List.getElem?_set_self (by omega)]
    · rw [hH2, List.getElem?_set_self (by omega)]
    · have := hcarry _ _ (by omega) (by omega) gB
      rw [this, hM0]
      unfold bll
      rw [List.map_replicate]
  obtain ⟨M, H', z1, z2, z3, z4, z5⟩ := c47 hG hg (prot := H.length) (show H.length ≤ HA.length by omega) (by omega) (by omega) (by omega) (by omega) (unm M0 + 1) M0 v H2 (Nat.lt_succ_self _) hv hw
  rw [hM0] at z3
  refine ⟨HA.length, M, H', ?_, z2.gm, z2.ml, z3.all, z2.st, by omega⟩
  have g8 := one_get hw.g3
  have g10 := one_get z2.g2
  subst hHD; subst hHC; subst hHB; subst hHA
  exact f36_F_0 (x7 := ⟨List.replicate 512 (.bool false)⟩) rfl bd77 (by rw [List.all_eq_true]; intro x hx; rw [List.mem_replicate] at hx; rw [hx.2]; rfl) rfl e1 rfl (by rw [List.length_replicate] at *; exact e2) g8 z1 g10
end Go.Proofs.YtkemihfaohkoeaaDoor.Am11d
set_option linter.unusedVariables false
open Go Go.Proofs.YtkemihfaohkoeaaDoor.Am
namespace Go.Proofs.YtkemihfaohkoeaaDoor.Am11d
theorem f34_F_0 {x0a : Option Addr} {x0n x0c : Nat} {H : AHeap} {prot : Nat} {z3a : Option Addr} {z3n z3c : Nat} {H1 : AHeap} (rv : Value) (rH : AHeap) (h1 : lpInf (lpOf cfg a34 0 prot H) ([Value.slice x0a x0n x0c, Value.slice none 0 0, Value.int .i64 (↑x0n : Int), Value.int .i64 0], H) = some (Ex.exit 0, [Value.slice z3a z3n z3c], H1)) (h2 : pfin a34 H [Value.slice z3a z3n z3c] H1 = (rv, rH)) : callInf cfg 34 [.slice x0a x0n x0c] prot H = some (rv, rH) :=
  fn_of2 a34 [.e, .lo (.exit 0, [.slice z3a z3n z3c], H1)] (ai h1 h2) (by kernel_rfl) rfl
theorem f34_L0_0 {x0a : Option Addr} {x0n x0c : Nat} {x3a : Option Addr} {x3n x3c : Nat} {x6 x7 : Int} {H0 : AHeap} {prot : Nat} {H : AHeap} {x13p x13o x13l : Nat} {H2 : AHeap} {x15a : Option Addr} {x15n x15c : Nat} {H3 : AHeap} (h1 : x7 < x6) (h2 : callInf cfg 36 [Value.slice x0a x0n x0c, Value.int .i64 x7] (List.length H0) H = some (Value.pointer (some ⟨x13p, x13o, some x13l⟩), H2)) (h3 : aappend cfg.P (List.length H0) true 64 64 (Value.slice x3a x3n x3c) (Value.slice (some ⟨List.length H2, 0, some (1 * 1)⟩) 1 1) (H2 ++ [wo [Value.pointer (some ⟨x13p, x13o, some x13l⟩)] 66]) = some (Value.slice x15a x15n x15c, H3)) (h4 : Fit .i64 (x7 + 1)) : lpOf cfg a34 0 prot H0 ([.slice x0a x0n x0c, .slice x3a x3n x3c, .int .i64 x6, .int .i64 x7], H) = some (Sum.inl ([Value.slice x0a x0n x0c, Value.slice x15a x15n x15c, Value.int .i64 x6, Value.int .i64 (x7 + 1)], H3)) :=
  lp_of2 [.e, .b true, .r (.pointer (some ⟨x13p, x13o, some x13l⟩)) H2, .e, .r (.slice x15a x15n x15c) H3, .e] (ai (decide_eq_true h1) (ai h2 (ai h3 (ai h4 (Eq.refl (Sum.inl ([Value.slice x0a x0n x0c, Value.slice x15a x15n x15c, Value.int .i64 x6, Value.int .i64 (x7 + 1)], H3) : LS ⊕ LO)))))) (by kernel_rfl)
theorem f34_L0_1 {x0a : Option Addr} {x0n x0c : Nat} {x3a : Option Addr} {x3n x3c : Nat} {x6 x7 : Int} {H0 : AHeap} {prot : Nat} {H : AHeap} (h1 : ¬(x7 < x6)) : lpOf cfg a34 0 prot H0 ([.slice x0a x0n x0c, .slice x3a x3n x3c, .int .i64 x6, .int .i64 x7], H) = some (Sum.inr (Ex.exit 0, [Value.slice x3a x3n x3c], H)) :=
  lp_of2 [.e, .b false] (ai (decide_eq_false h1) (Eq.refl (Sum.inr (Ex.exit 0, [Value.slice x3a x3n x3c], H) : LS ⊕ LO))) (by kernel_rfl)
end Go.Proofs.YtkemihfaohkoeaaDoor.Am11d
set_option linter.unusedVariables false
open Go Go.Proofs.YtkemihfaohkoeaaDoor.Am
namespace Go.Proofs.YtkemihfaohkoeaaDoor.Am11d
theorem f33_F_0 {x0a : Option Addr} {x0n x0c : Nat} {x1a : Option Addr} {x1n x1c : Nat} {H : AHeap} {prot : Nat} {z6a : Option Addr} {z6n z6c : Nat} {z7 : Int} {H1 : AHeap} (rv : Value) (rH : AHeap) (h1 : 0 ≤ (↑x0n : Int)) (h2 : (↑x0n : Int) = (↑x0n : Int)) (h3 : (↑x0n : Int) ≤ 9223372036854775807) (h4 : (↑8 : Int) * (↑x0n : Int) ≤ 2 ^ 48) (h5 : lpInf (lpOf cfg a33 0 prot H) ([Value.slice x1a x1n x1c, Value.slice (some ⟨List.length H, 0, some ((↑x0n : Int).toNat * 1)⟩) (↑x0n : Int).toNat (↑x0n : Int).toNat, Value.int .i64 0, Value.int .i64 (↑x0n : Int), Value.int .i64 0], H ++ [AObj.cells (repCells [Value.int .i64 0] (↑x0n : Int).toNat) 3 (repCells [Value.int .i64 0] (↑x0n : Int).toNat).length OMode.row]) = some (Ex.exit 0, [Value.slice z6a z6n z6c, Value.int .i64 z7], H1)) (h6 : pfin a33 H [Value.slice z6a z6n z6c, Value.int .i64 z7] H1 = (rv, rH)) : callInf cfg 33 [.slice x0a x0n x0c, .slice x1a x1n x1c] prot H = some (rv, rH) :=
  fn_of2 a33 [.e, .e, .e, .lo (.exit 0, [.slice z6a z6n z6c, .int .i64 z7], H1)] (ai h1 (ai h2 (ai h3 (ai h4 (ai h5 h6))))) (by kernel_rfl) rfl
theorem f33_L0_0 {x1a : Option Addr} {x1n x1c : Nat} {x6a : Option Addr} {x6n x6c : Nat} {x7 x14 x15 : Int} {H0 : AHeap} {prot : Nat} {H : AHeap} {x20p x20o x20l : Nat} {H2 : AHeap} {z1a : Option Addr} {z1n z1c : Nat} {z6a : Option Addr} {z6n z6c : Nat} {z7 z8 z14 z15 : Int} {H3 : AHeap} {x53p x53o x53l : Nat} {x54 : Int} {x59p x59o x59l : Nat} {H4 : AHeap} (h1 : x15 < x14) (h2 : aindexAddr cfg.P 24 (Value.slice x6a x6n x6c) (Value.int .i64 x15) = some (Value.pointer (some ⟨x20p, x20o, some x20l⟩))) (h3 : [Value.int .i64 (-1)].length = 1) (h4 : setCells H (List.length H0) x20p x20l x20o [Value.int .i64 (-1)] = some H2) (h5 : lpInf (lpOf cfg a33 1 prot H0) ([Value.slice x1a x1n x1c, Value.slice x6a x6n x6c, Value.int .i64 x7, Value.int .i64 x15, Value.int .i64 x14, Value.int .i64 x15, Value.int .i64 x15, Value.int .i64 0], H2) = some (Ex.exit 2, [Value.slice z1a z1n z1c, Value.slice z6a z6n z6c, Value.int .i64 z7, Value.int .i64 z8, Value.int .i64 z14, Value.int .i64 z15], H3)) (h6 : aindexAddr cfg.P 24 (Value.slice z6a z6n z6c) (Value.int .i64 z8) = some (Value.pointer (some ⟨x53p, x53o, some x53l⟩))) (h7 : getCells H3 x53p x53l x53o 1 = some [Value.int .i64 x54]) (h8 : x54 < 0) (h9 : aindexAddr cfg.P 24 (Value.slice z6a z6n z6c) (Value.int .i64 z8) = some (Value.pointer (some ⟨x59p, x59o, some x59l⟩))) (h10 : [Value.int .i64 z7].length = 1) (h11 : setCells H3 (List.length H0) x59p x59l x59o [Value.int .i64 z7] = some H4) (h12 : Fit .i64 (z7 + 1)) (h13 : Fit .i64 (z15 + 1)) : lpOf cfg a33 0 prot H0 ([.slice x1a x1n x1c, .slice x6a x6n x6c, .int .i64 x7, .int .i64 x14, .int .i64 x15], H) = some (Sum.inl ([Value.slice z1a z1n z1c, Value.slice z6a z6n z6c, Value.int .i64 (z7 + 1), Value.int .i64 z14, Value.int .i64 (z15 + 1)], H4)) :=
  lp_of2 [.e, .b true, .v (.pointer (some ⟨x20p, x20o, some x20l⟩)), .h H2, .lo (.exit 2, [.slice z1a z1n z1c, .slice z6a z6n z6c, .int .i64 z7, .int .i64 z8, .int .i64 z14, .int .i64 z15], H3), .v (.pointer (some ⟨x53p, x53o, some x53l⟩)), .v (.int .i64 x54), .e, .b true, .v (.pointer (some ⟨x59p, x59o, some x59l⟩)), .h H4, .e, .e] (ai (decide_eq_true h1) (ai h2 (ai h3 (ai h4 (ai h5 (ai h6 (ai h7 (ai (decide_eq_true h8) (ai h9 (ai h10 (ai h11 (ai h12 (ai h13 (Eq.refl (Sum.inl ([Value.slice z1a z1n z1c, Value.slice z6a z6n z6c, Value.int .i64 (z7 + 1), Value.int .i64 z14, Value.int .i64 (z15 + 1)], H4) : LS ⊕ LO))))))))))))))) (by kernel_rfl)
theorem f33_L0_1 {x1a : Option Addr} {x1n x1c : Nat} {x6a : Option Addr} {x6n x6c : Nat} {x7 x14 x15 : Int} {H0 : AHeap} {prot : Nat} {H : AHeap} {x20p x20o x20l : Nat} {H2 : AHeap} {z1a : Option Addr} {z1n z1c : Nat} {z6a : Option Addr} {z6n z6c : Nat} {z7 z8 z14 z15 : Int} {H3 : AHeap} {x53p x53o x53l : Nat} {x54 : Int} (h1 : x15 < x14) (h2 : aindexAddr cfg.P 24 (Value.slice x6a x6n x6c) (Value.int .i64 x15) = some (Value.pointer (some ⟨x20p, x20o, some x20l⟩))) (h3 : [Value.int .i64 (-1)].length = 1) (h4 : setCells H (List.length H0) x20p x20l x20o [Value.int .i64 (-1)] = some H2) (h5 : lpInf (lpOf cfg a33 1 prot H0) ([Value.slice x1a x1n x1c, Value.slice x6a x6n x6c, Value.int .i64 x7, Value.int .i64 x15, Value.int .i64 x14, Value.int .i64 x15, Value.int .i64 x15, Value.int .i64 0], H2) = some (Ex.exit 2, [Value.slice z1a z1n z1c, Value.slice z6a z6n z6c, Value.int .i64 z7, Value.int .i64 z8, Value.int .i64 z14, Value.int .i64 z15], H3)) (h6 : aindexAddr cfg.P 24 (Value.slice z6a z6n z6c) (Value.int .i64 z8) = some (Value.pointer (some ⟨x53p, x53o, some x53l⟩))) (h7 : getCells H3 x53p x53l x53o 1 = some [Value.int .i64 x54]) (h8 : ¬(x54 < 0)) (h9 : Fit .i64 (z15 + 1)) : lpOf cfg a33 0 prot H0 ([.slice x1a x1n x1c, .slice x6a x6n x6c, .int .i64 x7, .int .i64 x14, .int .i64 x15], H) = some (Sum.inl ([Value.slice z1a z1n z1c, Value.slice z6a z6n z6c, Value.int .i64 z7, Value.int .i64 z14, Value.int .i64 (z15 + 1)], H3)) :=
  lp_of2 [.e, .b true, .v (.pointer (some ⟨x20p, x20o, some x20l⟩)), .h H2, .lo (.exit 2, [.slice z1a z1n z1c, .slice z6a z6n z6c, .int .i64 z7, .int .i64 z8, .int .i64 z14, .int .i64 z15], H3), .v (.pointer (some ⟨x53p, x53o, some x53l⟩)), .v (.int .i64 x54), .e, .b false, .e] (ai (decide_eq_true h1) (ai h2 (ai h3 (ai h4 (ai h5 (ai h6 (ai h7 (ai (decide_eq_false h8) (ai h9 (Eq.refl (Sum.inl ([Value.slice z1a z1n z1c, Value.slice z6a z6n z6c, Value.int .i64 z7, Value.int .i64 z14, Value.int .i64 (z15 + 1)], H3) : LS ⊕ LO))))))))))) (by kernel_rfl)
theorem f33_L0_2 {x1a : Option Addr} {x1n x1c : Nat} {x6a : Option Addr} {x6n x6c : Nat} {x7 x14 x15 : Int} {H0 : AHeap} {prot : Nat} {H : AHeap} (h1 : ¬(x15 < x14)) : lpOf cfg a33 0 prot H0 ([.slice x1a x1n x1c, .slice x6a x6n x6c, .int .i64 x7, .int .i64 x14, .int .i64 x15], H) = some (Sum.inr (Ex.exit 0, [Value.slice x6a x6n x6c, Value.int .i64 x7], H)) :=
  lp_of2 [.e, .b false] (ai (decide_eq_false h1) (Eq.refl (Sum.inr (Ex.exit 0, [Value.slice x6a x6n x6c, Value.int .i64 x7], H) : LS ⊕ LO))) (by kernel_rfl)
theorem f33_L1_0 {x1a : Option Addr} {x1n x1c : Nat} {x6a : Option Addr} {x6n x6c : Nat} {x7 x8 x14 x15 x21 x22 : Int} {H0 : AHeap} {prot : Nat} {H : AHeap} {x27p x27o x27l x28p x28o x28l : Nat} {x32 : Bool} {x36p x36o x36l x37p x37o x37l : Nat} {x41 : Bool} {x47p x47o x47l : Nat} {x48 : Int} {x49p x49o x49l : Nat} {H2 : AHeap} (h1 : x22 < x21) (h2 : aindexAddr cfg.P 64 (Value.slice x1a x1n x1c) (Value.int .i64 x8) = some (Value.pointer (some ⟨x27p, x27o, some x27l⟩))) (h3 : getCells H x27p x27l x27o 1 = some [Value.pointer (some ⟨x28p, x28o, some x28l⟩)]) (h4 : 0 ≤ x22) (h5 : x22 < (↑512 : Int)) (h6 : getCells H x28p x28l (x28o + x22.toNat * 1) 1 = some [Value.bool x32]) (h7 : x32 = true) (h8 : aindexAddr cfg.P 64 (Value.slice x1a x1n x1c) (Value.int .i64 x22) = some (Value.pointer (some ⟨x36p, x36o, some x36l⟩))) (h9 : getCells H x36p x36l x36o 1 = some [Value.pointer (some ⟨x37p, x37o, some x37l⟩)]) (h10 : 0 ≤ x8) (h11 : x8 < (↑512 : Int)) (h12 : getCells H x37p x37l (x37o + x8.toNat * 1) 1 = some [Value.bool x41]) (h13 : x41 = true) (h14 : aindexAddr cfg.P 24 (Value.slice x6a x6n x6c) (Value.int .i64 x22) = some (Value.pointer (some ⟨x47p, x47o, some x47l⟩))) (h15 : getCells H x47p x47l x47o 1 = some [Value.int .i64 x48]) (h16 : aindexAddr cfg.P 24 (Value.slice x6a x6n x6c) (Value.int .i64 x8) = some (Value.pointer (some ⟨x49p, x49o, some x49l⟩))) (h17 : [Value.int .i64 x48].length = 1) (h18 : setCells H (List.length H0) x49p x49l x49o [Value.int .i64 x48] = some H2) : lpOf cfg a33 1 prot H0 ([.slice x1a x1n x1c, .slice x6a x6n x6c, .int .i64 x7, .int .i64 x8, .int .i64 x14, .int .i64 x15, .int .i64 x21, .int .i64 x22], H) = some (Sum.inr (Ex.exit 2, [Value.slice x1a x1n x1c, Value.slice x6a x6n x6c, Value.int .i64 x7, Value.int .i64 x8, Value.int .i64 x14, Value.int .i64 x15], H2)) :=
  lp_of2 [.e, .b true, .v (.pointer (some ⟨x27p, x27o, some x27l⟩)), .v (.pointer (some ⟨x28p, x28o, some x28l⟩)), .e, .v (.bool x32), .b true, .b true, .b true, .v (.pointer (some ⟨x36p, x36o, some x36l⟩)), .b true, .v (.pointer (some ⟨x37p, x37o, some x37l⟩)), .b true, .b true, .b true, .e, .b true, .v (.bool x41), .b true, .b true, .v (.pointer (some ⟨x47p, x47o, some x47l⟩)), .v (.int .i64 x48), .v (.pointer (some ⟨x49p, x49o, some x49l⟩)), .h H2] (ai (decide_eq_true h1) (ai h2 (ai h3 (ai h4 (ai h5 (ai h6 (ai h7 (ai h7 (ai h7 (ai h8 (ai h7 (ai h9 (ai h7 (ai h7 (ai h7 (ai h10 (ai h11 (ai h7 (ai h12 (ai h7 (ai h13 (ai h14 (ai h15 (ai h16 (ai h17 (ai h18 (Eq.refl (Sum.inr (Ex.exit 2, [Value.slice x1a x1n x1c, Value.slice x6a x6n x6c, Value.int .i64 x7, Value.int .i64 x8, Value.int .i64 x14, Value.int .i64 x15], H2) : LS ⊕ LO)))))))))))))))))))))))))))) (by kernel_rfl)
theorem f33_L1_1 {x1a : Option Addr} {x1n x1c : Nat} {x6a : Option Addr} {x6n x6c : Nat} {x7 x8 x14 x15 x21 x22 : Int} {H0 : AHeap} {prot : Nat} {H : AHeap} {x27p x27o x27l x28p x28o x28l : Nat} {x32 : Bool} {x36p x36o x36l x37p x37o x37l : Nat} {x41 : Bool} (h1 : x22 < x21) (h2 : aindexAddr cfg.P 64 (Value.slice x1a x1n x1c) (Value.int .i64 x8) = some (Value.pointer (some ⟨x27p, x27o, some x27l⟩))) (h3 : getCells H x27p x27l x27o 1 = some [Value.pointer (some ⟨x28p, x28o, some x28l⟩)]) (h4 : 0 ≤ x22) (h5 : x22 < (↑512 : Int)) (h6 : getCells H x28p x28l (x28o + x22.toNat * 1) 1 = some [Value.bool x32]) (h7 : x32 = true) (h8 : aindexAddr cfg.P 64 (Value.slice x1a x1n x1c) (Value.int .i64 x22) = some (Value.pointer (some ⟨x36p, x36o, some x36l⟩))) (h9 : getCells H x36p x36l x36o 1 = some [Value.pointer (some ⟨x37p, x37o, some x37l⟩)]) (h10 : 0 ≤ x8) (h11 : x8 < (↑512 : Int)) (h12 : getCells H x37p x37l (x37o + x8.toNat * 1) 1 = some [Value.bool x41]) (h13 : x41 = false) (h14 : Fit .i64 (x22 + 1)) : lpOf cfg a33 1 prot H0 ([.slice x1a x1n x1c, .slice x6a x6n x6c, .int .i64 x7, .int .i64 x8, .int .i64 x14, .int .i64 x15, .int .i64 x21, .int .i64 x22], H) = some (Sum.inl ([Value.slice x1a x1n x1c, Value.slice x6a x6n x6c, Value.int .i64 x7, Value.int .i64 x8, Value.int .i64 x14, Value.int .i64 x15, Value.int .i64 x21, Value.int .i64 (x22 + 1)], H)) :=
  lp_of2 [.e, .b true, .v (.pointer (some ⟨x27p, x27o, some x27l⟩)), .v (.pointer (some ⟨x28p, x28o, some x28l⟩)), .e, .v (.bool x32), .b true, .b true, .b true, .v (.pointer (some ⟨x36p, x36o, some x36l⟩)), .b true, .v (.pointer (some ⟨x37p, x37o, some x37l⟩)), .b true, .b true, .b true, .e, .b true, .v (.bool x41), .b true, .b false, .e] (ai (decide_eq_true h1) (ai h2 (ai h3 (ai h4 (ai h5 (ai h6 (ai h7 (ai h7 (ai h7 (ai h8 (ai h7 (ai h9 (ai h7 (ai h7 (ai h7 (ai h10 (ai h11 (ai h7 (ai h12 (ai h7 (ai h13 (ai h14 (Eq.refl (Sum.inl ([Value.slice x1a x1n x1c, Value.slice x6a x6n x6c, Value.int .i64 x7, Value.int .i64 x8, Value.int .i64 x14, Value.int .i64 x15, Value.int .i64 x21, Value.int .i64 (x22 + 1)], H) : LS ⊕ LO)))))))))))))))))))))))) (by kernel_rfl)
theorem f33_L1_2 {x1a : Option Addr} {x1n x1c : Nat} {x6a : Option Addr} {x6n x6c : Nat} {x7 x8 x14 x15 x21 x22 : Int} {H0 : AHeap} {prot : Nat} {H : AHeap} {x27p x27o x27l x28p x28o x28l : Nat} {x32 : Bool} (h1 : x22 < x21) (h2 : aindexAddr cfg.P 64 (Value.slice x1a x1n x1c) (Value.int .i64 x8) = some (Value.pointer (some ⟨x27p, x27o, some x27l⟩))) (h3 : getCells H x27p x27l x27o 1 = some [Value.pointer (some ⟨x28p, x28o, some x28l⟩)]) (h4 : 0 ≤ x22) (h5 : x22 < (↑512 : Int)) (h6 : getCells H x28p x28l (x28o + x22.toNat * 1) 1 = some [Value.bool x32]) (h7 : x32 = false) (h8 : Fit .i64 (x22 + 1)) : lpOf cfg a33 1 prot H0 ([.slice x1a x1n x1c, .slice x6a x6n x6c, .int .i64 x7, .int .i64 x8, .int .i64 x14, .int .i64 x15, .int .i64 x21, .int .i64 x22], H) = some (Sum.inl ([Value.slice x1a x1n x1c, Value.slice x6a x6n x6c, Value.int .i64 x7, Value.int .i64 x8, Value.int .i64 x14, Value.int .i64 x15, Value.int .i64 x21, Value.int .i64 (x22 + 1)], H)) :=
  lp_of2 [.e, .b true, .v (.pointer (some ⟨x27p, x27o, some x27l⟩)), .v (.pointer (some ⟨x28p, x28o, some x28l⟩)), .e, .v (.bool x32), .b false, .b false, .b false, .b false, .b false, .b false, .b false, .b false, .b false, .b false, .e] (ai (decide_eq_true h1) (ai h2 (ai h3 (ai h4 (ai h5 (ai h6 (ai h7 (ai h7 (ai h7 (ai h7 (ai h7 (ai h7 (ai h7 (ai h7 (ai h7 (ai (Eq.refl false) (ai h8 (Eq.refl (Sum.inl ([Value.slice x1a x1n x1c, Value.slice x6a x6n x6c, Value.int .i64 x7, Value.int .i64 x8, Value.int .i64 x14, Value.int .i64 x15, Value.int .i64 x21, Value.int .i64 (x22 + 1)], H) : LS ⊕ LO))))))))))))))))))) (by kernel_rfl)
theorem f33_L1_3 {x1a : Option Addr} {x1n x1c : Nat} {x6a : Option Addr} {x6n x6c : Nat} {x7 x8 x14 x15 x21 x22 : Int} {H0 : AHeap} {prot : Nat} {H : AHeap} (h1 : ¬(x22 < x21)) : lpOf cfg a33 1 prot H0 ([.slice x1a x1n x1c, .slice x6a x6n x6c, .int .i64 x7, .int .i64 x8, .int .i64 x14, .int .i64 x15, .int .i64 x21, .int .i64 x22], H) = some (Sum.inr (Ex.exit 2, [Value.slice x1a x1n x1c, Value.slice x6a x6n x6c, Value.int .i64 x7, Value.int .i64 x8, Value.int .i64 x14, Value.int .i64 x15], H)) :=
  lp_of2 [.e, .b false] (ai (decide_eq_false h1) (Eq.refl (Sum.inr (Ex.exit 2, [Value.slice x1a x1n x1c, Value.slice x6a x6n x6c, Value.int .i64 x7, Value.int .i64 x8, Value.int .i64 x14, Value.int .i64 x15], H) : LS ⊕ LO))) (by kernel_rfl)
end Go.Proofs.YtkemihfaohkoeaaDoor.Am11d
set_option linter.unusedVariables false
open Go Go.Proofs.YtkemihfaohkoeaaDoor.Am
namespace Go.Proofs.YtkemihfaohkoeaaDoor.Am11d
theorem f17_F_0 {x0a : Option Addr} {x0n x0c : Nat} {H : AHeap} {prot : Nat} {x9 : Int} (h1 : callInf cfg 22 [Value.slice x0a x0n x0c] (List.length H) H = some (Value.int .i64 x9, H)) (h2 : (x9 != 0) = true) : callInf cfg 17 [.slice x0a x0n x0c] prot H = some (Value.tuple { toList := [Value.slice none 0 0, Value.int .i64 0, Value.int .i64 x9] }, H) :=
  fn_of2 a17 [.v (.int .i64 x9), .e, .b true] (ai h1 (ai h2 (Eq.refl ((Value.tuple { toList := [Value.slice none 0 0, Value.int .i64 0, Value.int .i64 x9] }, H) : Value × AHeap)))) (by kernel_rfl) rfl
theorem f17_F_1 {x0a : Option Addr} {x0n x0c : Nat} {H : AHeap} {prot : Nat} {x9 : Int} {x16a : Option Addr} {x16n x16c : Nat} {H1 : AHeap} {x17aa : Option Addr} {x17an x17ac : Nat} {x17b : Int} {H2 : AHeap} (rv : Value) (rH : AHeap) (h1 : callInf cfg 22 [Value.slice x0a x0n x0c] (List.length H) H = some (Value.int .i64 x9, H)) (h2 : (x9 != 0) = false) (h3 : callInf cfg 34 [Value.slice x0a x0n x0c] (List.length H) H = some (Value.slice x16a x16n x16c, H1)) (h4 : callInf cfg 33 [Value.slice x0a x0n x0c, Value.slice x16a x16n x16c] (List.length H) H1 = some (Value.tuple { toList := [Value.slice x17aa x17an x17ac, Value.int .i64 x17b] }, H2)) (h5 : pfin a17 H [Value.slice x17aa x17an x17ac, Value.int .i64 x17b, Value.int .i64 0] H2 = (rv, rH)) : callInf cfg 17 [.slice x0a x0n x0c] prot H = some (rv, rH) :=
  fn_of2 a17 [.v (.int .i64 x9), .e, .b false, .r (.slice x16a x16n x16c) H1, .r (.tuple #[.slice x17aa x17an x17ac, .int .i64 x17b]) H2] (ai h1 (ai h2 (ai h3 (ai h4 h5)))) (by kernel_rfl) rfl
end Go.Proofs.YtkemihfaohkoeaaDoor.Am11d
namespace Go.Proofs.YtkemihfaohkoeaaDoor.Am11d
open Go Go.Proofs.YtkemihfaohkoeaaDoor.Am
theorem T65 : ElemT cfg.P 64 66 1 8 := ⟨by kernel_rfl, by kernel_rfl, by kernel_rfl, ⟨.pointer none, by kernel_rfl, rfl⟩, by kernel_rfl, by omega, by omega⟩
def ptl (ps : List Nat) : List Value := ps.map fun (p : Nat) => .pointer (some ⟨p, 0, some 512⟩)
/-- The marks of the first vertices. -/
structure Mk (G : List (List Int)) (H : AHeap) (v p : Nat) : Prop where
  ex : ∃ M, H[p]? = some (.cells (bll M) 76 512 .var) ∧ M.length = 512 ∧ ∀ u, at_ M u = true ↔ Rch G v u
theorem Mk.stay {G : List (List Int)} {H H' : AHeap} {v p : Nat} (h : Mk G H v p) {o : Option Nat} (s : Stay o H H') (hne : o ≠ some p) : Mk G H' v p := by
  obtain ⟨M, h1, h2, h3⟩ := h.ex
  exact ⟨M, by rw [s.2 p (List.getElem?_eq_some_iff.1 h1).1 hne]; exact h1, h2, h3⟩
theorem Mk.lt {G : List (List Int)} {H : AHeap} {v p : Nat} (h : Mk G H v p) : p < H.length := by
  obtain ⟨M, h1, _⟩ := h.ex
  exact (List.getElem?_eq_some_iff.1 h1).1
theorem gc_not {H H1 : AHeap} {e s n id : Nat} {x : Value} {cs : List Value} (h : Own H1 e s x (some id) n cs) (hp : cs.all plain0 = false) : gc H [x] H1 = (x, H1) := by
  obtain ⟨hl, hn, rfl, wr, hwr, hH⟩ := h
  unfold gc
  have hnd : noDup (sliceIds [.slice (some ⟨id, 0, some cs.length⟩) n n]) = true := rfl
  rw [if_pos hnd]
  have : keepAll H.length H1 [.slice (some ⟨id, 0, some cs.length⟩) n n] [] = none := by
    simp only [keepAll, keep1]
    split
    · rfl
    · rw [hH]
      simp [hp]
  rw [this]
  rfl

theorem loop37 {G : List (List Int)} (hG : Good G) {H0 : AHeap} {vG : Value} (hg : Gr H0 vG G) {prot : Nat} : ∀ (d i : Nat) (x : Value) (o : Option Nat) (ps : List Nat) (H : AHeap), i + d = G.length → Stay none H0 H → Own H 66 1 x o i (ptl ps) → ps.length = i → (∀ id, o = some id → H0.length ≤ id) → (∀ (j p : Nat), ps[j]? = some p → Mk G H j p ∧ o ≠ some p ∧ H0.length ≤ p) →
    ∃ x' o' ps' H', lpInf (lpOf cfg a34 0 prot H0) ([vG, x, .int .i64 G.length, .int .i64 i], H) = some (.exit 0, [x'], H') ∧ Stay none H0 H' ∧ Own H' 66 1 x' o' G.length (ptl ps') ∧ ps'.length = G.length ∧ (∀ id, o' = some id → H0.length ≤ id) ∧ (∀ (j p : Nat), ps'[j]? = some p → Mk G H' j p ∧ o' ≠ some p ∧ H0.length ≤ p)
  | 0, i, x, o, ps, H, hi, hst, hx, hl, ho, hm => by
    have he : i = G.length := by omega
    subst he
    obtain ⟨_, _, hge⟩ := hg.len
    have hx0 := hx
    obtain ⟨_, _, rfl⟩ := hx.len
    subst hge
    exact ⟨_, o, ps, H, lp_last (f34_L0_1 (by omega)), hst, hx0, hl, ho, hm⟩
  | d + 1, i, x, o, ps, H, hi, hst, hx, hl, ho, hm => by
    have hn := hG.1
    obtain ⟨pm, M, H2, c1, c2, c3, c4, c5, c6⟩ := c39 hG H0.length (hg.stay hst) (show i < G.length by omega)
    have hx2 := hx.stay c5 (fun _ _ h => by cases h)
    have l2 := c5.1
    have hpm := (List.getElem?_eq_some_iff.1 c2).1
    have h0 := hst.1
    obtain ⟨a', c', o', H3, q1, q2, q3, q4, q5, q6⟩ := own_app T65 hx2 (ecs := [.pointer (some ⟨pm, 0, some 512⟩)]) rfl rfl (prot := H0.length) (room := true) ho (by omega) (by omega) (L := 1 * 1) rfl (el := [Value.pointer (some ⟨pm, 0, some 512⟩)].length) rfl
    have hol : ∀ id, o = some id → id < H.length := fun id h => by
      rw [h] at hx
      exact (List.getElem?_eq_some_iff.1 hx.2.2.2.choose_spec.2).1
    have hne : o ≠ some pm := fun h => by have := hol pm h; omega
    have ho'pm : o' ≠ pm := by
      cases hh : o with
      | none => have := q5 hh; omega
      | some j => have := q6 j hh; have := hol j hh; omega
    have e1 : ptl ps ++ [.pointer (some ⟨pm, 0, some 512⟩)] = ptl (ps ++ [pm]) := by simp [ptl]
    rw [e1] at q2
    have hst3 : Stay none H0 H3 := (hst.trans c5).over q3 ho
    obtain ⟨x', o2, ps', H', z1, z2, z3, z4, z5, z6⟩ := loop37 hG hg (prot := prot) d (i + 1) _ (some o') (ps ++ [pm]) H3 (by omega) hst3 q2 (by simp [hl]) (fun id h => by cases h; exact q4) (fun j p hj => by
      by_cases hjl : j < ps.length
      · rw [List.getElem?_append_left hjl] at hj
        obtain ⟨m1, m2, m3⟩ := hm j p hj
        refine ⟨(m1.stay c5 (by simp)).stay q3 m2, fun h => ?_, m3⟩
        have h := Option.some.inj h
        have := m1.lt
        cases hh : o with
        | none => have := q5 hh; omega
        | some k => have := q6 k hh; exact m2 (by rw [hh, ← this, h])
      · rw [List.getElem?_append_right (by omega)] at hj
        cases hk : j - ps.length with
        | zero =>
          rw [hk] at hj
          have hj : pm = p := by simpa using hj
          subst hj
          have hjv : j = i := by omega
          subst hjv
          exact ⟨(⟨M, c2, c3, c4⟩ : Mk G H2 j pm).stay q3 hne, fun h => ho'pm (Option.some.inj h), by omega⟩
        | succ k => rw [hk] at hj; simp at hj)
    refine ⟨x', o2, ps', H', ?_, z2, z3, z4, z5, z6⟩
    obtain ⟨_, _, hge⟩ := hg.len
    obtain ⟨_, _, rfl⟩ := hx.len
    subst hge
    exact lp_next (f34_L0_0 (by omega) c1 q1 (fit64 (by omega) (by omega))) z1

/-- The list of marks, one for each vertex. -/
structure WL (G : List (List Int)) (H : AHeap) (x : Value) : Prop where
  ex : ∃ ps : List Nat, Rd H 66 1 x G.length (ptl ps) ∧ ps.length = G.length ∧ ∀ (j p : Nat), ps[j]? = some p → Mk G H j p
theorem WL.stay {G : List (List Int)} {H H' : AHeap} {x : Value} (h : WL G H x) (s : Stay none H H') : WL G H' x := by
  obtain ⟨ps, h1, h2, h3⟩ := h.ex
  exact ⟨ps, h1.stay s, h2, fun j p hj => (h3 j p hj).stay s (by simp)⟩
theorem c37 {G : List (List Int)} (hG : Good G) {vG : Value} (prot : Nat) {H : AHeap} (hg : Gr H vG G) : ∃ a c H', callInf cfg 34 [vG] prot H = some (.slice a G.length c, H') ∧ WL G H' (.slice a G.length c) ∧ Stay none H H' := by
  obtain ⟨x', o', ps', H', z1, z2, z3, z4, z5, z6⟩ := loop37 hG hg (prot := prot) G.length 0 (.slice none 0 0) none [] H (by omega) (Stay.refl _ _) own_nil rfl (fun id h => by cases h) (fun j p hj => by simp at hj)
  obtain ⟨aG, cG, rfl⟩ := hg.len
  have hz3 := z3
  obtain ⟨ax, cx, rfl⟩ := z3.len
  cases ho : o' with
  | none =>
    rw [ho] at hz3
    have h0 : G.length = 0 := hz3.2.1
    rcases hz3.2.2 with hx | hx
    · have : pfin a34 H [.slice ax G.length cx] H' = (.slice ax G.length cx, H) := by
        rw [pfin_eq, if_neg (by simp [a34]), hx]
        exact gc_plain rfl
      refine ⟨ax, cx, H, f34_F_0 _ _ z1 this, ⟨[], ⟨by rw [h0]; rfl, .inl ⟨h0, .inl hx⟩⟩, by simp [h0], fun j p hj => by simp at hj⟩, Stay.refl _ _⟩
    · have : pfin a34 H [.slice ax G.length cx] H' = (.slice ax G.length cx, H) := by
        rw [pfin_eq, if_neg (by simp [a34]), hx]
        rfl
      refine ⟨ax, cx, H, f34_F_0 _ _ z1 this, ⟨[], ⟨by rw [h0]; rfl, .inl ⟨h0, .inr hx⟩⟩, by simp [h0], fun j p hj => by simp at hj⟩, Stay.refl _ _⟩
  | some id =>
    rw [ho] at hz3
    have hpos : 0 < G.length := hz3.2.1
    have hnp : (ptl ps').all plain0 = false := by
      rw [List.all_eq_false]
      cases ps' with
      | nil => simp at z4; omega
      | cons p ps => exact ⟨.pointer (some ⟨p, 0, some 512⟩), by simp [ptl], by simp [plain0]⟩
    have : pfin a34 H [.slice ax G.length cx] H' = (.slice ax G.length cx, H') := by
      rw [pfin_eq, if_neg (by simp [a34])]
      exact gc_not hz3 hnp
    exact ⟨ax, cx, H', f34_F_0 _ _ z1 this, ⟨ps', z3.rd, z4, fun j p hj => (z6 j p hj).1⟩, z2⟩
theorem WL.at {G : List (List Int)} {H : AHeap} {x : Value} (h : WL G H x) {v u : Nat} (hv : v < G.length) (hu : u < 512) :
    ∃ id L p b, aindexAddr cfg.P 64 x (.int .i64 v) = some (.pointer (some ⟨id, v, some L⟩)) ∧ getCells H id L v 1 = some [.pointer (some ⟨p, 0, some 512⟩)] ∧ getCells H p 512 (0 + u * 1) 1 = some [.bool b] ∧ (b = true ↔ Rch G v u) := by
  obtain ⟨ps, h1, h2, h3⟩ := h.ex
  have hp : ps[v]? = some ps[v] := List.getElem?_eq_getElem (by omega)
  obtain ⟨id, L, a, b⟩ := rd_at T65 h1 (show (ptl ps)[v]? = some (.pointer (some ⟨ps[v], 0, some 512⟩)) by unfold ptl; rw [List.getElem?_map, hp]; rfl)
  obtain ⟨M, m1, m2, m3⟩ := (h3 v _ hp).ex
  exact ⟨id, L, ps[v], at_ M u, a, b, arr_get m1 (by simp [bll, m2]) (at_get (by omega)), m3 u⟩
end Go.Proofs.YtkemihfaohkoeaaDoor.Am11d
namespace Go.Proofs.YtkemihfaohkoeaaDoor.Am11d
open Go Go.Proofs.YtkemihfaohkoeaaDoor.Am
/-- Does each one reach the other? -/
noncomputable def mu (G : List (List Int)) (v u : Nat) : Bool := @decide (Rch G v u ∧ Rch G u v) (Classical.propDecidable _)
theorem mu_iff {G : List (List Int)} {v u : Nat} : mu G v u = true ↔ Rch G v u ∧ Rch G u v := by unfold mu; exact @decide_eq_true_iff _ (Classical.propDecidable _)
def findM (p : Nat → Bool) : Nat → Nat → Option Nat
  | 0, _ => none
  | d + 1, u => if p u then some u else findM p d (u + 1)
theorem findM_some {p : Nat → Bool} : ∀ {d u w : Nat}, findM p d u = some w → u ≤ w ∧ w < u + d ∧ p w = true
  | 0, _, _, h => by cases h
  | d + 1, u, w, h => by
    rw [findM] at h
    split at h
    · cases h; rename_i hp; exact ⟨Nat.le_refl _, by omega, hp⟩
    · obtain ⟨a, b, c⟩ := findM_some h; exact ⟨by omega, by omega, c⟩
theorem findM_none {p : Nat → Bool} : ∀ {d u : Nat}, findM p d u = none → ∀ w, u ≤ w → w < u + d → p w = false
  | 0, _, _, w, h1, h2 => by omega
  | d + 1, u, h, w, h1, h2 => by
    rw [findM] at h
    split at h
    · cases h
    · rename_i hp
      by_cases e : w = u
      · subst e; simpa using hp
      · exact findM_none h w (by omega) (by omega)
/-- The numbers of the components. -/
noncomputable def numR (G : List (List Int)) : Nat → Nat → List Nat → Nat → List Nat × Nat
  | 0, _, out, n => (out, n)
  | d + 1, v, out, n => match findM (mu G v) v 0 with
    | some u => numR G d (v + 1) (out ++ [out.getD u 0]) n
    | none => numR G d (v + 1) (out ++ [n]) (n + 1)
noncomputable def comp (G : List (List Int)) : List Nat × Nat := numR G G.length 0 [] 0
def nl (l : List Nat) : List Int := l.map fun (x : Nat) => (x : Int)
def pad (N : Nat) (l : List Int) : List Int := l ++ List.replicate (N - l.length) 0
theorem pad_len {N : Nat} {l : List Int} (h : l.length ≤ N) : (pad N l).length = N := by unfold pad; simp; omega
theorem pad_set {N : Nat} {l : List Int} {x : Int} (h : l.length < N) : (pad N l).set l.length x = pad N (l ++ [x]) := by
  unfold pad
  rw [List.set_append_right _ _ (Nat.le_refl _), Nat.sub_self, show N - l.length = (N - (l ++ [x]).length) + 1 by simp; omega, List.replicate_succ, List.set_cons_zero]
  simp
theorem pad_set2 {N : Nat} {l : List Int} {x y : Int} : (pad N (l ++ [x])).set l.length y = pad N (l ++ [y]) := by
  unfold pad
  rw [List.append_assoc, List.set_append_right _ _ (Nat.le_refl _), Nat.sub_self, List.append_assoc]
  simp
theorem pad_get {N : Nat} {l : List Int} {u : Nat} (h : u < l.length) : (pad N l).getD u 0 = l.getD u 0 := by
  unfold pad
  rw [List.getD_eq_getElem?_getD, List.getElem?_append_left h, ← List.getD_eq_getElem?_getD]
theorem put_il (l : List Int) {i : Nat} (hi : i < l.length) (c : Int) : putList (il l) (i * 1 + 0) [.int .i64 c] = il (l.set i c) := put_map (Value.int .i64) l hi c

theorem loop36i {G : List (List Int)} (hG : Good G) {G0 : AHeap} {x1 : Value} (hw : WL G G0 x1) {o6 : Nat} (ho : G0.length ≤ o6) {H0 : AHeap} (hp : H0.length ≤ o6) {prot : Nat} {x6 : Value} {n : Int} {v : Nat} (hv : v < G.length) {D : List Int} (hD : D.length = G.length) (hx1 : ∃ a c, x1 = .slice a G.length c) : ∀ (d u : Nat) (H : AHeap), u + d = v → Stay none G0 H → Own H 3 1 x6 (some o6) G.length (il D) →
    ∃ H', lpInf (lpOf cfg a33 1 prot H0) ([x1, x6, .int .i64 n, .int .i64 v, .int .i64 G.length, .int .i64 v, .int .i64 v, .int .i64 u], H) = some (.exit 2, [x1, x6, .int .i64 n, .int .i64 v, .int .i64 G.length, .int .i64 v], H') ∧
      Own H' 3 1 x6 (some o6) G.length (il (match findM (mu G v) d u with | some w => D.set v (D.getD w 0) | none => D)) ∧ Stay (some o6) H H'
  | 0, u, H, hu, hst, hx => by
    obtain ⟨_, _, rfl⟩ := hx1
    have hx0 := hx
    obtain ⟨_, _, rfl⟩ := hx.len
    exact ⟨H, lp_last (f33_L1_3 (by omega)), hx0, Stay.refl _ _⟩
  | d + 1, u, H, hu, hst, hx => by
    have hn := hG.1
    obtain ⟨i1, L1, p1, b1, a1, a2, a3, a4⟩ := (hw.stay hst).at hv (show u < 512 by omega)
    obtain ⟨i2, L2, p2, b2, c1, c2, c3, c4⟩ := (hw.stay hst).at (show u < G.length by omega) (show v < 512 by omega)
    have fi : Fit .i64 ((u : Int) + 1) := fit64 (by omega) (by omega)
    obtain ⟨ax, cx, rfl⟩ := hx1
    rw [findM]
    by_cases hm : mu G v u = true
    · rw [if_pos hm]
      obtain ⟨m1, m2⟩ := mu_iff.1 hm
      have hb1 := a4.2 m1
      have hb2 := c4.2 m2
      subst hb1; subst hb2
      obtain ⟨_, e1, q1, q2⟩ := own_at T34 hx (show (il D)[u]? = some (.int .i64 (D.getD u 0)) by rw [il_get (by omega), List.getD_eq_getElem?_getD, List.getElem?_eq_getElem (by omega)]; rfl)
      cases e1
      obtain ⟨_, H2, e2, s1, s2, s3, s4, s5⟩ := own_setS T34 hx (i := v) (j := 0) hv (vs := [.int .i64 (D.getD u 0)]) (by simp) rfl (prot := H0.length) (fun id h => by cases h; exact hp)
      cases e2
      rw [put_il D (by omega)] at s3
      obtain ⟨_, _, rfl⟩ := hx.len
      exact ⟨H2, lp_last (f33_L1_0 (by omega) a1 a2 (by omega) (by omega) a3 rfl c1 c2 (by omega) (by omega) c3 rfl q1 q2 s1 rfl s2), s3, s4⟩
    · rw [if_neg hm]
      obtain ⟨H', z1, z2, z3⟩ := loop36i hG hw ho hp (prot := prot) (n := n) hv hD ⟨ax, cx, rfl⟩ d (u + 1) H (by omega) hst hx
      refine ⟨H', ?_, z2, z3⟩
      obtain ⟨_, _, rfl⟩ := hx.len
      cases b1 with
      | true =>
        cases b2 with
        | true => exact absurd (mu_iff.2 ⟨a4.1 rfl, c4.1 rfl⟩) hm
        | false => exact lp_next (f33_L1_1 (by omega) a1 a2 (by omega) (by omega) a3 rfl c1 c2 (by omega) (by omega) c3 rfl fi) z1
      | false => exact lp_next (f33_L1_2 (by omega) a1 a2 (by omega) (by omega) a3 rfl fi) z1

theorem loop36o {G : List (List Int)} (hG : Good G) {G0 : AHeap} {x1 : Value} (hw : WL G G0 x1) {o6 : Nat} (ho : G0.length ≤ o6) {H0 : AHeap} (hp : H0.length ≤ o6) {prot : Nat} {x6 : Value} (hx1 : ∃ a c, x1 = .slice a G.length c) : ∀ (d v : Nat) (out : List Nat) (n : Nat) (H : AHeap), v + d = G.length → out.length = v → n ≤ v → (∀ x ∈ out, x < 512) → Stay none G0 H → Own H 3 1 x6 (some o6) G.length (il (pad G.length (nl out))) →
    ∃ H', lpInf (lpOf cfg a33 0 prot H0) ([x1, x6, .int .i64 n, .int .i64 G.length, .int .i64 v], H) = some (.exit 0, [x6, .int .i64 (numR G d v out n).2], H') ∧ Own H' 3 1 x6 (some o6) G.length (il (nl (numR G d v out n).1)) ∧ (numR G d v out n).1.length = G.length ∧ Stay (some o6) H H'
  | 0, v, out, n, H, hv, hl, hn, h512, hst, hx => by
    have he : pad G.length (nl out) = nl out := by unfold pad; rw [show G.length - (nl out).length = 0 by simp [nl]; omega]; simp
    rw [he] at hx
    obtain ⟨_, _, rfl⟩ := hx1
    have hx0 := hx
    obtain ⟨_, _, rfl⟩ := hx.len
    exact ⟨H, lp_last (f33_L0_2 (by omega)), hx0, by show out.length = G.length; omega, Stay.refl _ _⟩
  | d + 1, v, out, n, H, hv, hl, hn, h512, hst, hx => by
    have h5 := hG.1
    have hnl : (nl out).length = v := by simp [nl, hl]
    have hvl : v < G.length := by omega
    obtain ⟨_, H2, e2, s1, s2, s3, s4, s5⟩ := own_setS T34 hx (i := v) (j := 0) hvl (vs := [.int .i64 (-1)]) (by simp) rfl (prot := H0.length) (fun id h => by cases h; exact hp)
    cases e2
    rw [put_il _ (by rw [pad_len (by omega)]; exact hvl), show v = (nl out).length from hnl.symm, pad_set (by omega)] at s3
    have hst2 : Stay none G0 H2 := hst.over s4 (fun id h => by cases h; exact ho)
    have hDl : (pad G.length (nl out ++ [-1])).length = G.length := pad_len (by simp; omega)
    obtain ⟨H3, u1, u2, u3⟩ := loop36i hG hw ho hp (prot := prot) (n := (n : Int)) hvl hDl hx1 v 0 H2 (by omega) hst2 s3
    have hst3 : Stay none G0 H3 := hst2.over u3 (fun id h => by cases h; exact ho)
    obtain ⟨ax, cx, hxe⟩ := hx1
    have hx6 := hx.len
    rw [numR]
    cases hf : findM (mu G v) v 0 with
    | some u =>
      rw [hf] at u2
      obtain ⟨_, hu, _⟩ := findM_some hf
      have hget : (pad G.length (nl out ++ [-1])).getD u 0 = ((out.getD u 0 : Nat) : Int) := by
        rw [pad_get (by simp; omega), List.getD_eq_getElem?_getD, List.getElem?_append_left (by omega)]
        unfold nl
        rw [List.getElem?_map, List.getD_eq_getElem?_getD, List.getElem?_eq_getElem (by omega)]
        rfl
      simp only at u2
      rw [hget, show v = (nl out).length from hnl.symm, pad_set2] at u2
      have hnl2 : nl out ++ [((out.getD u 0 : Nat) : Int)] = nl (out ++ [out.getD u 0]) := by simp [nl]
      rw [hnl2] at u2
      have hval : out.getD u 0 < 512 := by
        rw [List.getD_eq_getElem?_getD, List.getElem?_eq_getElem (by omega)]
        exact h512 _ (List.getElem_mem _)
      obtain ⟨H', z1, z2, z3, z4⟩ := loop36o hG hw ho hp (prot := prot) ⟨ax, cx, hxe⟩ d (v + 1) (out ++ [out.getD u 0]) n H3 (by omega) (by simp [hl]) (by omega) (fun x hx => by
        rw [List.mem_append, List.mem_singleton] at hx
        rcases hx with hx | rfl
        · exact h512 x hx
        · exact hval) hst3 u2
      have hrow : (il (pad G.length (nl (out ++ [out.getD u 0]))))[v]? = some (.int .i64 ((out.getD u 0 : Nat) : Int)) := by
        unfold il pad
        rw [List.getElem?_map, List.getElem?_append_left (by simp [nl]; omega)]
        unfold nl
        rw [List.map_append, List.getElem?_append_right (by simp; omega)]
        simp [hl]
      obtain ⟨_, e3, q1, q2⟩ := own_at T34 u2 hrow
      cases e3
      refine ⟨H', ?_, z2, z3, (s4.trans u3).trans z4⟩
      obtain ⟨a6, c6, rfl⟩ := hx6
      subst hxe
      exact lp_next (f33_L0_1 (by omega) s1 rfl s2 u1 q1 q2 (by omega) (fit64 (by omega) (by omega))) z1
    | none =>
      rw [hf] at u2
      simp only at u2
      have hrow : (il (pad G.length (nl out ++ [-1])))[v]? = some (.int .i64 (-1)) := by
        unfold il pad
        rw [List.getElem?_map, List.getElem?_append_left (by simp; omega), List.getElem?_append_right (by omega), hnl, Nat.sub_self]
        rfl
      obtain ⟨_, e3, q1, q2⟩ := own_at T34 u2 hrow
      cases e3
      obtain ⟨_, H4, e4, t1, t2, t3, t4, t5⟩ := own_setS T34 u2 (i := v) (j := 0) hvl (vs := [.int .i64 (n : Int)]) (by simp) rfl (prot := H0.length) (fun id h => by cases h; exact hp)
      cases e4
      rw [put_il _ (by rw [hDl]; exact hvl)] at t3
      rw [show v = (nl out).length from hnl.symm, pad_set2] at t3
      have hnl2 : nl out ++ [((n : Nat) : Int)] = nl (out ++ [n]) := by simp [nl]
      rw [hnl2] at t3
      obtain ⟨H', z1, z2, z3, z4⟩ := loop36o hG hw ho hp (prot := prot) ⟨ax, cx, hxe⟩ d (v + 1) (out ++ [n]) (n + 1) H4 (by omega) (by simp [hl]) (by omega) (fun x hx => by
        rw [List.mem_append, List.mem_singleton] at hx
        rcases hx with hx | rfl
        · exact h512 x hx
        · omega) (hst3.over t4 (fun id h => by cases h; exact ho)) t3
      refine ⟨H', ?_, z2, z3, ((s4.trans u3).trans t4).trans z4⟩
      obtain ⟨a6, c6, rfl⟩ := hx6
      subst hxe
      exact lp_next (f33_L0_0 (by omega) s1 rfl s2 u1 q1 q2 (by omega) t1 rfl t2 (fit64 (by omega) (by omega)) (fit64 (by omega) (by omega))) z1
end Go.Proofs.YtkemihfaohkoeaaDoor.Am11d
set_option linter.unusedVariables false
open Go Go.Proofs.YtkemihfaohkoeaaDoor.Am
namespace Go.Proofs.YtkemihfaohkoeaaDoor.Am11d
theorem f37_F_0 {x0a : Option Addr} {x0n x0c : Nat} {H : AHeap} {prot : Nat} {x9 : Int} {H1 : AHeap} (h1 : callInf cfg 46 [Value.int .u64 (IntKind.u64.wrap (↑x0n : Int))] prot H = some (Value.int .i64 x9, H)) (h2 : callInf cfg 45 [Value.slice x0a x0n x0c, Value.int .i64 0, Value.int .i64 (↑x0n : Int), Value.int .i64 x9] prot H = some (Value.tuple { toList := [] }, H1)) : callInf cfg 37 [.slice x0a x0n x0c] prot H = some (Value.tuple { toList := [] }, H1) :=
  fn_of2 a37 [.e, .e, .v (.int .i64 x9), .r (.tuple #[]) H1] (ai h1 (ai h2 (Eq.refl ((Value.tuple { toList := [] }, H1) : Value × AHeap)))) (by kernel_rfl) rfl
end Go.Proofs.YtkemihfaohkoeaaDoor.Am11d
set_option linter.unusedVariables false
open Go Go.Proofs.YtkemihfaohkoeaaDoor.Am
namespace Go.Proofs.YtkemihfaohkoeaaDoor.Am11d
theorem f45_F_0 {x0a : Option Addr} {x0n x0c : Nat} {x1 x2 x3 : Int} {H : AHeap} {prot : Nat} {H1 : AHeap} (h1 : lpInf (lpOf cfg a45 0 prot H) ([Value.slice x0a x0n x0c, Value.int .i64 x1, Value.int .i64 x2, Value.int .i64 x3, Value.bool true, Value.bool true], H) = some (Ex.ret, [], H1)) : callInf cfg 45 [.slice x0a x0n x0c, .int .i64 x1, .int .i64 x2, .int .i64 x3] prot H = some (Value.tuple { toList := [] }, H1) :=
  fn_of2 a45 [.lo (.ret, [], H1)] (ai h1 (Eq.refl ((Value.tuple { toList := [] }, H1) : Value × AHeap))) (by kernel_rfl) rfl
theorem f45_L0_0 {x0a : Option Addr} {x0n x0c : Nat} {x1 x2 x3 : Int} {x8 x9 : Bool} {H0 : AHeap} {prot : Nat} {H H2 : AHeap} (h1 : Fit .i64 (x2 - x1)) (h2 : x2 - x1 ≤ 12) (h3 : callInf cfg 50 [Value.slice x0a x0n x0c, Value.int .i64 x1, Value.int .i64 x2] prot H = some (Value.tuple { toList := [] }, H2)) : lpOf cfg a45 0 prot H0 ([.slice x0a x0n x0c, .int .i64 x1, .int .i64 x2, .int .i64 x3, .bool x8, .bool x9], H) = some (Sum.inr (Ex.ret, [], H2)) :=
  lp_of2 [.e, .e, .b true, .r (.tuple #[]) H2] (ai h1 (ai (decide_eq_true h2) (ai h3 (Eq.refl (Sum.inr (Ex.ret, [], H2) : LS ⊕ LO))))) (by kernel_rfl)
theorem f45_L0_18 {x0a : Option Addr} {x0n x0c : Nat} {x1 x2 x3 : Int} {x8 x9 : Bool} {H0 : AHeap} {prot : Nat} {H : AHeap} {x46a x46b : Int} {x72 : Bool} {H2 : AHeap} (h1 : Fit .i64 (x2 - x1)) (h2 : ¬(x2 - x1 ≤ 12)) (h3 : (x3 == 0) = false) (h4 : (!x8) = false) (h5 : callInf cfg 53 [Value.slice x0a x0n x0c, Value.int .i64 x1, Value.int .i64 x2] prot H = some (Value.tuple { toList := [Value.int .i64 x46a, Value.int .i64 x46b] }, H)) (h6 : (x46b == 2) = false) (h7 : x8 = true) (h8 : x9 = true) (h9 : (x46b == 1) = true) (h10 : callInf cfg 55 [Value.slice x0a x0n x0c, Value.int .i64 x1, Value.int .i64 x2] prot H = some (Value.bool x72, H2)) (h11 : x72 = true) : lpOf cfg a45 0 prot H0 ([.slice x0a x0n x0c, .int .i64 x1, .int .i64 x2, .int .i64 x3, .bool x8, .bool x9], H) = some (Sum.inr (Ex.ret, [], H2)) :=
  lp_of2 [.e, .e, .b false, .e, .b false, .e, .b false, .v (.tuple #[.int .i64 x46a, .int .i64 x46b]), .e, .b false, .b true, .b true, .b true, .b true, .e, .b true, .b true, .r (.bool x72) H2, .b true] (ai h1 (ai (decide_eq_false h2) (ai h3 (ai h4 (ai h5 (ai h6 (ai h7 (ai h7 (ai h8 (ai h8 (ai h8 (ai h9 (ai h10 (ai h11 (Eq.refl (Sum.inr (Ex.ret, [], H2) : LS ⊕ LO)))))))))))))))) (by kernel_rfl)
end Go.Proofs.YtkemihfaohkoeaaDoor.Am11d
set_option linter.unusedVariables false
open Go Go.Proofs.YtkemihfaohkoeaaDoor.Am
namespace Go.Proofs.YtkemihfaohkoeaaDoor.Am11d
theorem f46_F_0 {x0 : Int} {H : AHeap} {prot : Nat} {x7 : Int} (h1 : callInf cfg 60 [Value.int .u64 x0] (List.length H) H = some (Value.int .i64 x7, H)) : callInf cfg 46 [.int .u64 x0] prot H = some (Value.int .i64 x7, H) :=
  fn_of2 a46 [.b false, .v (.int .i64 x7)] (ai (Eq.refl false) (ai h1 (Eq.refl ((Value.int .i64 x7, H) : Value × AHeap)))) (by kernel_rfl) rfl
end Go.Proofs.YtkemihfaohkoeaaDoor.Am11d
set_option linter.unusedVariables false
open Go Go.Proofs.YtkemihfaohkoeaaDoor.Am
namespace Go.Proofs.YtkemihfaohkoeaaDoor.Am11d
theorem f50_F_0 {x0a : Option Addr} {x0n x0c : Nat} {x1 x2 : Int} {H : AHeap} {prot : Nat} {H1 : AHeap} (h1 : Fit .i64 (x1 + 1)) (h2 : lpInf (lpOf cfg a50 0 prot H) ([Value.slice x0a x0n x0c, Value.int .i64 x1, Value.int .i64 x2, Value.int .i64 (x1 + 1)], H) = some (Ex.exit 0, [], H1)) : callInf cfg 50 [.slice x0a x0n x0c, .int .i64 x1, .int .i64 x2] prot H = some (Value.tuple { toList := [] }, H1) :=
  fn_of2 a50 [.e, .lo (.exit 0, [], H1)] (ai h1 (ai h2 (Eq.refl ((Value.tuple { toList := [] }, H1) : Value × AHeap)))) (by kernel_rfl) rfl
theorem f50_L0_0 {x0a : Option Addr} {x0n x0c : Nat} {x1 x2 x6 : Int} {H0 : AHeap} {prot : Nat} {H : AHeap} {z0a : Option Addr} {z0n z0c : Nat} {z1 z2 z6 : Int} {H2 : AHeap} (h1 : x6 < x2) (h2 : lpInf (lpOf cfg a50 1 prot H0) ([Value.slice x0a x0n x0c, Value.int .i64 x1, Value.int .i64 x2, Value.int .i64 x6, Value.int .i64 x6], H) = some (Ex.exit 2, [Value.slice z0a z0n z0c, Value.int .i64 z1, Value.int .i64 z2, Value.int .i64 z6], H2)) (h3 : Fit .i64 (z6 + 1)) : lpOf cfg a50 0 prot H0 ([.slice x0a x0n x0c, .int .i64 x1, .int .i64 x2, .int .i64 x6], H) = some (Sum.inl ([Value.slice z0a z0n z0c, Value.int .i64 z1, Value.int .i64 z2, Value.int .i64 (z6 + 1)], H2)) :=
  lp_of2 [.e, .b true, .lo (.exit 2, [.slice z0a z0n z0c, .int .i64 z1, .int .i64 z2, .int .i64 z6], H2), .e] (ai (decide_eq_true h1) (ai h2 (ai h3 (Eq.refl (Sum.inl ([Value.slice z0a z0n z0c, Value.int .i64 z1, Value.int .i64 z2, Value.int .i64 (z6 + 1)], H2) : LS ⊕ LO))))) (by kernel_rfl)
theorem f50_L0_1 {x0a : Option Addr} {x0n x0c : Nat} {x1 x2 x6 : Int} {H0 : AHeap} {prot : Nat} {H : AHeap} (h1 : ¬(x6 < x2)) : lpOf cfg a50 0 prot H0 ([.slice x0a x0n x0c, .int .i64 x1, .int .i64 x2, .int .i64 x6], H) = some (Sum.inr (Ex.exit 0, [], H)) :=
  lp_of2 [.e, .b false] (ai (decide_eq_false h1) (Eq.refl (Sum.inr (Ex.exit 0, [], H) : LS ⊕ LO))) (by kernel_rfl)
theorem f50_L1_1 {x0a : Option Addr} {x0n x0c : Nat} {x1 x2 x6 x7 : Int} {H0 : AHeap} {prot : Nat} {H : AHeap} {x22p x22o x22l : Nat} {x23 : Int} {x27p x27o x27l : Nat} {x28 : Int} {x29 : Bool} (h1 : x7 > x1) (h2 : aindexAddr cfg.P 24 (Value.slice x0a x0n x0c) (Value.int .i64 x7) = some (Value.pointer (some ⟨x22p, x22o, some x22l⟩))) (h3 : getCells H x22p x22l x22o 1 = some [Value.int .i64 x23]) (h4 : Fit .i64 (x7 - 1)) (h5 : aindexAddr cfg.P 24 (Value.slice x0a x0n x0c) (Value.int .i64 (x7 - 1)) = some (Value.pointer (some ⟨x27p, x27o, some x27l⟩))) (h6 : getCells H x27p x27l x27o 1 = some [Value.int .i64 x28]) (h7 : callInf cfg 56 [Value.int .i64 x23, Value.int .i64 x28] prot H = some (Value.bool x29, H)) (h8 : x29 = false) : lpOf cfg a50 1 prot H0 ([.slice x0a x0n x0c, .int .i64 x1, .int .i64 x2, .int .i64 x6, .int .i64 x7], H) = some (Sum.inr (Ex.exit 2, [Value.slice x0a x0n x0c, Value.int .i64 x1, Value.int .i64 x2, Value.int .i64 x6], H)) :=
  lp_of2 [.e, .b true, .b true, .b true, .v (.pointer (some ⟨x22p, x22o, some x22l⟩)), .b true, .v (.int .i64 x23), .b true, .b true, .b true, .e, .b true, .v (.pointer (some ⟨x27p, x27o, some x27l⟩)), .b true, .v (.int .i64 x28), .b true, .v (.bool x29), .b true, .b false] (ai (decide_eq_true h1) (ai (decide_eq_true h1) (ai (decide_eq_true h1) (ai h2 (ai (decide_eq_true h1) (ai h3 (ai (decide_eq_true h1) (ai (decide_eq_true h1) (ai (decide_eq_true h1) (ai h4 (ai (decide_eq_true h1) (ai h5 (ai (decide_eq_true h1) (ai h6 (ai (decide_eq_true h1) (ai h7 (ai (decide_eq_true h1) (ai h8 (Eq.refl (Sum.inr (Ex.exit 2, [Value.slice x0a x0n x0c, Value.int .i64 x1, Value.int .i64 x2, Value.int .i64 x6], H) : LS ⊕ LO)))))))))))))))))))) (by kernel_rfl)
end Go.Proofs.YtkemihfaohkoeaaDoor.Am11d
set_option linter.unusedVariables false
open Go Go.Proofs.YtkemihfaohkoeaaDoor.Am
namespace Go.Proofs.YtkemihfaohkoeaaDoor.Am11d
theorem f53_F_0 {x0a : Option Addr} {x0n x0c : Nat} {x1 x2 : Int} {H : AHeap} {prot : Nat} {x37 x40 x43 x48 x49 : Int} (h1 : Fit .i64 (x2 - x1)) (h2 : Fit .i64 ((x2 - x1).tdiv 4)) (h3 : Fit .i64 ((x2 - x1).tdiv 4 * 1)) (h4 : Fit .i64 (x1 + (x2 - x1).tdiv 4 * 1)) (h5 : Fit .i64 ((x2 - x1).tdiv 4 * 2)) (h6 : Fit .i64 (x1 + (x2 - x1).tdiv 4 * 2)) (h7 : Fit .i64 ((x2 - x1).tdiv 4 * 3)) (h8 : Fit .i64 (x1 + (x2 - x1).tdiv 4 * 3)) (h9 : x2 - x1 ≥ 8) (h10 : x2 - x1 ≥ 50) (h11 : callInf cfg 64 [Value.slice x0a x0n x0c, Value.int .i64 (x1 + (x2 - x1).tdiv 4 * 1), Value.pointer (some ⟨List.length H, 0, some [Value.int .i64 0].length⟩)] (List.length H) (H ++ [vo [Value.int .i64 0] 3]) = some (Value.int .i64 x37, H ++ [vo [Value.int .i64 0] 3])) (h12 : callInf cfg 64 [Value.slice x0a x0n x0c, Value.int .i64 (x1 + (x2 - x1).tdiv 4 * 2), Value.pointer (some ⟨List.length H, 0, some [Value.int .i64 0].length⟩)] (List.length H) (H ++ [vo [Value.int .i64 0] 3]) = some (Value.int .i64 x40, H ++ [vo [Value.int .i64 0] 3])) (h13 : callInf cfg 64 [Value.slice x0a x0n x0c, Value.int .i64 (x1 + (x2 - x1).tdiv 4 * 3), Value.pointer (some ⟨List.length H, 0, some [Value.int .i64 0].length⟩)] (List.length H) (H ++ [vo [Value.int .i64 0] 3]) = some (Value.int .i64 x43, H ++ [vo [Value.int .i64 0] 3])) (h14 : callInf cfg 65 [Value.slice x0a x0n x0c, Value.int .i64 x37, Value.int .i64 x40, Value.int .i64 x43, Value.pointer (some ⟨List.length H, 0, some [Value.int .i64 0].length⟩)] (List.length H) (H ++ [vo [Value.int .i64 0] 3]) = some (Value.int .i64 x48, H ++ [vo [Value.int .i64 0] 3])) (h15 : getCells (H ++ [vo [Value.int .i64 0] 3]) (List.length H) [Value.int .i64 0].length 0 1 = some [Value.int .i64 x49]) (h16 : (x49 == 0) = true) : callInf cfg 53 [.slice x0a x0n x0c, .int .i64 x1, .int .i64 x2] prot H = some (Value.tuple { toList := [Value.int .i64 x48, Value.int .i64 1] }, H) :=
  fn_of2 a53 [.e, .e, .e, .e, .e, .e, .e, .e, .e, .e, .e, .e, .b true, .e, .b true, .v (.int .i64 x37), .v (.int .i64 x40), .v (.int .i64 x43), .v (.int .i64 x48), .v (.int .i64 x49), .e, .b true] (ai h1 (ai (show (4 : Int) ≠ 0 by decide) (ai h2 (ai h3 (ai h4 (ai (show (4 : Int) ≠ 0 by decide) (ai h2 (ai h5 (ai h6 (ai (show (4 : Int) ≠ 0 by decide) (ai h2 (ai h7 (ai h8 (ai (decide_eq_true h9) (ai (decide_eq_true h10) (ai h11 (ai h12 (ai h13 (ai h14 (ai h15 (ai h16 (Eq.refl ((Value.tuple { toList := [Value.int .i64 x48, Value.int .i64 1] }, H) : Value × AHeap))))))))))))))))))))))) (by kernel_rfl) rfl
theorem f53_F_3 {x0a : Option Addr} {x0n x0c : Nat} {x1 x2 : Int} {H : AHeap} {prot : Nat} {x48 x49 : Int} (h1 : Fit .i64 (x2 - x1)) (h2 : Fit .i64 ((x2 - x1).tdiv 4)) (h3 : Fit .i64 ((x2 - x1).tdiv 4 * 1)) (h4 : Fit .i64 (x1 + (x2 - x1).tdiv 4 * 1)) (h5 : Fit .i64 ((x2 - x1).tdiv 4 * 2)) (h6 : Fit .i64 (x1 + (x2 - x1).tdiv 4 * 2)) (h7 : Fit .i64 ((x2 - x1).tdiv 4 * 3)) (h8 : Fit .i64 (x1 + (x2 - x1).tdiv 4 * 3)) (h9 : x2 - x1 ≥ 8) (h10 : ¬(x2 - x1 ≥ 50)) (h11 : callInf cfg 65 [Value.slice x0a x0n x0c, Value.int .i64 (x1 + (x2 - x1).tdiv 4 * 1), Value.int .i64 (x1 + (x2 - x1).tdiv 4 * 2), Value.int .i64 (x1 + (x2 - x1).tdiv 4 * 3), Value.pointer (some ⟨List.length H, 0, some [Value.int .i64 0].length⟩)] (List.length H) (H ++ [vo [Value.int .i64 0] 3]) = some (Value.int .i64 x48, H ++ [vo [Value.int .i64 0] 3])) (h12 : getCells (H ++ [vo [Value.int .i64 0] 3]) (List.length H) [Value.int .i64 0].length 0 1 = some [Value.int .i64 x49]) (h13 : (x49 == 0) = true) : callInf cfg 53 [.slice x0a x0n x0c, .int .i64 x1, .int .i64 x2] prot H = some (Value.tuple { toList := [Value.int .i64 x48, Value.int .i64 1] }, H) :=
  fn_of2 a53 [.e, .e, .e, .e, .e, .e, .e, .e, .e, .e, .e, .e, .b true, .e, .b false, .v (.int .i64 x48), .v (.int .i64 x49), .e, .b true] (ai h1 (ai (show (4 : Int) ≠ 0 by decide) (ai h2 (ai h3 (ai h4 (ai (show (4 : Int) ≠ 0 by decide) (ai h2 (ai h5 (ai h6 (ai (show (4 : Int) ≠ 0 by decide) (ai h2 (ai h7 (ai h8 (ai (decide_eq_true h9) (ai (decide_eq_false h10) (ai h11 (ai h12 (ai h13 (Eq.refl ((Value.tuple { toList := [Value.int .i64 x48, Value.int .i64 1] }, H) : Value × AHeap)))))))))))))))))))) (by kernel_rfl) rfl
end Go.Proofs.YtkemihfaohkoeaaDoor.Am11d
set_option linter.unusedVariables false
open Go Go.Proofs.YtkemihfaohkoeaaDoor.Am
namespace Go.Proofs.YtkemihfaohkoeaaDoor.Am11d
theorem f55_F_1 {x0a : Option Addr} {x0n x0c : Nat} {x1 x2 : Int} {H : AHeap} {prot : Nat} {z6 : Bool} {H1 : AHeap} (h1 : Fit .i64 (x1 + 1)) (h2 : lpInf (lpOf cfg a55 0 prot H) ([Value.slice x0a x0n x0c, Value.int .i64 x1, Value.int .i64 x2, Value.int .i64 (x1 + 1), Value.int .i64 0], H) = some (Ex.ret, [Value.bool z6], H1)) : callInf cfg 55 [.slice x0a x0n x0c, .int .i64 x1, .int .i64 x2] prot H = some (Value.bool z6, H1) :=
  fn_of2 a55 [.e, .lo (.ret, [.bool z6], H1)] (ai h1 (ai h2 (Eq.refl ((Value.bool z6, H1) : Value × AHeap)))) (by kernel_rfl) rfl
theorem f55_L0_0 {x0a : Option Addr} {x0n x0c : Nat} {x1 x2 x7 x8 : Int} {H0 : AHeap} {prot : Nat} {H : AHeap} {z0a : Option Addr} {z0n z0c : Nat} {z1 z2 z7 z8 : Int} {H2 : AHeap} (h1 : x8 < 5) (h2 : lpInf (lpOf cfg a55 1 prot H0) ([Value.slice x0a x0n x0c, Value.int .i64 x1, Value.int .i64 x2, Value.int .i64 x7, Value.int .i64 x8], H) = some (Ex.exit 2, [Value.slice z0a z0n z0c, Value.int .i64 z1, Value.int .i64 z2, Value.int .i64 z7, Value.int .i64 z8], H2)) (h3 : (z7 == z2) = true) : lpOf cfg a55 0 prot H0 ([.slice x0a x0n x0c, .int .i64 x1, .int .i64 x2, .int .i64 x7, .int .i64 x8], H) = some (Sum.inr (Ex.ret, [Value.bool true], H2)) :=
  lp_of2 [.e, .b true, .lo (.exit 2, [.slice z0a z0n z0c, .int .i64 z1, .int .i64 z2, .int .i64 z7, .int .i64 z8], H2), .e, .b true] (ai (decide_eq_true h1) (ai h2 (ai h3 (Eq.refl (Sum.inr (Ex.ret, [Value.bool true], H2) : LS ⊕ LO))))) (by kernel_rfl)
theorem f55_L1_1 {x0a : Option Addr} {x0n x0c : Nat} {x1 x2 x7 x8 : Int} {H0 : AHeap} {prot : Nat} {H : AHeap} {x23p x23o x23l : Nat} {x24 : Int} {x28p x28o x28l : Nat} {x29 : Int} {x30 : Bool} (h1 : x7 < x2) (h2 : aindexAddr cfg.P 24 (Value.slice x0a x0n x0c) (Value.int .i64 x7) = some (Value.pointer (some ⟨x23p, x23o, some x23l⟩))) (h3 : getCells H x23p x23l x23o 1 = some [Value.int .i64 x24]) (h4 : Fit .i64 (x7 - 1)) (h5 : aindexAddr cfg.P 24 (Value.slice x0a x0n x0c) (Value.int .i64 (x7 - 1)) = some (Value.pointer (some ⟨x28p, x28o, some x28l⟩))) (h6 : getCells H x28p x28l x28o 1 = some [Value.int .i64 x29]) (h7 : callInf cfg 56 [Value.int .i64 x24, Value.int .i64 x29] prot H = some (Value.bool x30, H)) (h8 : (!x30) = true) (h9 : Fit .i64 (x7 + 1)) : lpOf cfg a55 1 prot H0 ([.slice x0a x0n x0c, .int .i64 x1, .int .i64 x2, .int .i64 x7, .int .i64 x8], H) = some (Sum.inl ([Value.slice x0a x0n x0c, Value.int .i64 x1, Value.int .i64 x2, Value.int .i64 (x7 + 1), Value.int .i64 x8], H)) :=
  lp_of2 [.e, .b true, .b true, .b true, .v (.pointer (some ⟨x23p, x23o, some x23l⟩)), .b true, .v (.int .i64 x24), .b true, .b true, .b true, .e, .b true, .v (.pointer (some ⟨x28p, x28o, some x28l⟩)), .b true, .v (.int .i64 x29), .b true, .v (.bool x30), .b true, .e, .b true, .b true, .e] (ai (decide_eq_true h1) (ai (decide_eq_true h1) (ai (decide_eq_true h1) (ai h2 (ai (decide_eq_true h1) (ai h3 (ai (decide_eq_true h1) (ai (decide_eq_true h1) (ai (decide_eq_true h1) (ai h4 (ai (decide_eq_true h1) (ai h5 (ai (decide_eq_true h1) (ai h6 (ai (decide_eq_true h1) (ai h7 (ai (decide_eq_true h1) (ai (decide_eq_true h1) (ai h8 (ai h9 (Eq.refl (Sum.inl ([Value.slice x0a x0n x0c, Value.int .i64 x1, Value.int .i64 x2, Value.int .i64 (x7 + 1), Value.int .i64 x8], H) : LS ⊕ LO)))))))))))))))))))))) (by kernel_rfl)
theorem f55_L1_2 {x0a : Option Addr} {x0n x0c : Nat} {x1 x2 x7 x8 : Int} {H0 : AHeap} {prot : Nat} {H : AHeap} (h1 : ¬(x7 < x2)) : lpOf cfg a55 1 prot H0 ([.slice x0a x0n x0c, .int .i64 x1, .int .i64 x2, .int .i64 x7, .int .i64 x8], H) = some (Sum.inr (Ex.exit 2, [Value.slice x0a x0n x0c, Value.int .i64 x1, Value.int .i64 x2, Value.int .i64 x7, Value.int .i64 x8], H)) :=
  lp_of2 [.e, .b false, .b false, .b false, .b false, .b false, .b false, .b false, .b false, .b false, .b false, .b false, .b false, .b false] (ai (decide_eq_false h1) (ai (decide_eq_false h1) (ai (decide_eq_false h1) (ai (decide_eq_false h1) (ai (decide_eq_false h1) (ai (decide_eq_false h1) (ai (decide_eq_false h1) (ai (decide_eq_false h1) (ai (decide_eq_false h1) (ai (decide_eq_false h1) (ai (decide_eq_false h1) (ai (decide_eq_false h1) (ai (Eq.refl false) (Eq.refl (Sum.inr (Ex.exit 2, [Value.slice x0a x0n x0c, Value.int .i64 x1, Value.int .i64 x2, Value.int .i64 x7, Value.int .i64 x8], H) : LS ⊕ LO))))))))))))))) (by kernel_rfl)
end Go.Proofs.YtkemihfaohkoeaaDoor.Am11d
set_option linter.unusedVariables false
open Go Go.Proofs.YtkemihfaohkoeaaDoor.Am
namespace Go.Proofs.YtkemihfaohkoeaaDoor.Am11d
theorem f56_F_2 {x0 x1 : Int} {H : AHeap} {prot : Nat} {x6 : Bool} (h1 : callInf cfg 66 [Value.int .i64 x0] (List.length H) H = some (Value.bool x6, H)) (h2 : x6 = false) : callInf cfg 56 [.int .i64 x0, .int .i64 x1] prot H = some (Value.bool (decide (x0 < x1)), H) :=
  fn_of2 a56 [.v (.bool x6), .b false, .b false, .b false, .b false, .b false, .b false, .b false, .e, .b false] (ai h1 (ai h2 (ai h2 (ai h2 (ai h2 (ai (Eq.refl false) (ai (Eq.refl false) (ai (Eq.refl false) (ai (Eq.refl false) (Eq.refl ((Value.bool (decide (x0 < x1)), H) : Value × AHeap))))))))))) (by kernel_rfl) rfl
end Go.Proofs.YtkemihfaohkoeaaDoor.Am11d
set_option linter.unusedVariables false
open Go Go.Proofs.YtkemihfaohkoeaaDoor.Am
namespace Go.Proofs.YtkemihfaohkoeaaDoor.Am11d
noncomputable def T8 : ByteArray := { data := { toList := [0, 1, 2, 2, 3, 3, 3, 3, 4, 4, 4, 4, 4, 4, 4, 4, 5, 5, 5, 5, 5, 5, 5, 5, 5, 5, 5, 5, 5, 5, 5, 5, 6, 6, 6, 6, 6, 6, 6, 6, 6, 6, 6, 6, 6, 6, 6, 6, 6, 6, 6, 6, 6, 6, 6, 6, 6, 6, 6, 6, 6, 6, 6, 6, 7, 7, 7, 7, 7, 7, 7, 7, 7, 7, 7, 7, 7, 7, 7, 7, 7, 7, 7, 7, 7, 7, 7, 7, 7, 7, 7, 7, 7, 7, 7, 7, 7, 7, 7, 7, 7, 7, 7, 7, 7, 7, 7, 7, 7, 7, 7, 7, 7, 7, 7, 7, 7, 7, 7, 7, 7, 7, 7, 7, 7, 7, 7, 7, 8, 8, 8, 8, 8, 8, 8, 8, 8, 8, 8, 8, 8, 8, 8, 8, 8, 8, 8, 8, 8, 8, 8, 8, 8, 8, 8, 8, 8, 8, 8, 8, 8, 8, 8, 8, 8, 8, 8, 8, 8, 8, 8, 8, 8, 8, 8, 8, 8, 8, 8, 8, 8, 8, 8, 8, 8, 8, 8, 8, 8, 8, 8, 8, 8, 8, 8, 8, 8, 8, 8, 8, 8, 8, 8, 8, 8, 8, 8, 8, 8, 8, 8, 8, 8, 8, 8, 8, 8, 8, 8, 8, 8, 8, 8, 8, 8, 8, 8, 8, 8, 8, 8, 8, 8, 8, 8, 8, 8, 8, 8, 8, 8, 8, 8, 8, 8, 8, 8, 8, 8, 8, 8, 8, 8, 8, 8, 8] } }
theorem f60_F_5 {x0 : Int} {H : AHeap} {prot : Nat} (h1 : ¬(x0 ≥ 4294967296)) (h2 : x0 ≥ 65536) (h3 : (0 : Int) ≤ 16) (h4 : Fit .i64 (0 + 16)) (h5 : ¬(x0.fdiv (2 ^ min (Int.toNat 16) IntKind.u64.bits) ≥ 256)) (h6 : 0 ≤ IntKind.u8.wrap (x0.fdiv (2 ^ min (Int.toNat 16) IntKind.u64.bits))) (h7 : IntKind.u8.wrap (x0.fdiv (2 ^ min (Int.toNat 16) IntKind.u64.bits)) < (↑T8.size : Int)) (h8 : Fit .i64 (↑(T8.get! (IntKind.u8.wrap (x0.fdiv (2 ^ min (Int.toNat 16) IntKind.u64.bits))).toNat).toNat : Int)) (h9 : Fit .i64 (0 + 16 + (↑(T8.get! (IntKind.u8.wrap (x0.fdiv (2 ^ min (Int.toNat 16) IntKind.u64.bits))).toNat).toNat : Int))) : callInf cfg 60 [.int .u64 x0] prot H = some (Value.int .i64 (0 + 16 + (↑(T8.get! (IntKind.u8.wrap (x0.fdiv (2 ^ min (Int.toNat 16) IntKind.u64.bits))).toNat).toNat : Int)), H) :=
  fn_of2 a60 [.e, .b false, .e, .b true, .e, .e, .e, .b false, .e, .e, .e, .e] (ai (decide_eq_false h1) (ai (decide_eq_true h2) (ai h3 (ai h4 (ai (decide_eq_false h5) (ai h6 (ai h7 (ai h8 (ai h9 (Eq.refl ((Value.int .i64 (0 + 16 + (↑(T8.get! (IntKind.u8.wrap (x0.fdiv (2 ^ min (Int.toNat 16) IntKind.u64.bits))).toNat).toNat : Int)), H) : Value × AHeap))))))))))) (by kernel_rfl) rfl
theorem f60_F_6 {x0 : Int} {H : AHeap} {prot : Nat} (h1 : ¬(x0 ≥ 4294967296)) (h2 : ¬(x0 ≥ 65536)) (h3 : x0 ≥ 256) (h4 : (0 : Int) ≤ 8) (h5 : Fit .i64 (0 + 8)) (h6 : 0 ≤ IntKind.u8.wrap (x0.fdiv (2 ^ min (Int.toNat 8) IntKind.u64.bits))) (h7 : IntKind.u8.wrap (x0.fdiv (2 ^ min (Int.toNat 8) IntKind.u64.bits)) < (↑T8.size : Int)) (h8 : Fit .i64 (↑(T8.get! (IntKind.u8.wrap (x0.fdiv (2 ^ min (Int.toNat 8) IntKind.u64.bits))).toNat).toNat : Int)) (h9 : Fit .i64 (0 + 8 + (↑(T8.get! (IntKind.u8.wrap (x0.fdiv (2 ^ min (Int.toNat 8) IntKind.u64.bits))).toNat).toNat : Int))) : callInf cfg 60 [.int .u64 x0] prot H = some (Value.int .i64 (0 + 8 + (↑(T8.get! (IntKind.u8.wrap (x0.fdiv (2 ^ min (Int.toNat 8) IntKind.u64.bits))).toNat).toNat : Int)), H) :=
  fn_of2 a60 [.e, .b false, .e, .b false, .e, .b true, .e, .e, .e, .e, .e, .e] (ai (decide_eq_false h1) (ai (decide_eq_false h2) (ai (decide_eq_true h3) (ai h4 (ai h5 (ai h6 (ai h7 (ai h8 (ai h9 (Eq.refl ((Value.int .i64 (0 + 8 + (↑(T8.get! (IntKind.u8.wrap (x0.fdiv (2 ^ min (Int.toNat 8) IntKind.u64.bits))).toNat).toNat : Int)), H) : Value × AHeap))))))))))) (by kernel_rfl) rfl
theorem f60_F_7 {x0 : Int} {H : AHeap} {prot : Nat} (h1 : ¬(x0 ≥ 4294967296)) (h2 : ¬(x0 ≥ 65536)) (h3 : ¬(x0 ≥ 256)) (h4 : 0 ≤ IntKind.u8.wrap x0) (h5 : IntKind.u8.wrap x0 < (↑T8.size : Int)) (h6 : Fit .i64 (↑(T8.get! (IntKind.u8.wrap x0).toNat).toNat : Int)) (h7 : Fit .i64 (0 + (↑(T8.get! (IntKind.u8.wrap x0).toNat).toNat : Int))) : callInf cfg 60 [.int .u64 x0] prot H = some (Value.int .i64 (0 + (↑(T8.get! (IntKind.u8.wrap x0).toNat).toNat : Int)), H) :=
  fn_of2 a60 [.e, .b false, .e, .b false, .e, .b false, .e, .e, .e, .e] (ai (decide_eq_false h1) (ai (decide_eq_false h2) (ai (decide_eq_false h3) (ai h4 (ai h5 (ai h6 (ai h7 (Eq.refl ((Value.int .i64 (0 + (↑(T8.get! (IntKind.u8.wrap x0).toNat).toNat : Int)), H) : Value × AHeap))))))))) (by kernel_rfl) rfl
end Go.Proofs.YtkemihfaohkoeaaDoor.Am11d
set_option linter.unusedVariables false
open Go Go.Proofs.YtkemihfaohkoeaaDoor.Am
namespace Go.Proofs.YtkemihfaohkoeaaDoor.Am11d
theorem f64_F_0 {x0a : Option Addr} {x0n x0c : Nat} {x1 : Int} {x2p x2o x2l : Nat} {H : AHeap} {prot : Nat} {x14 : Int} (h1 : Fit .i64 (x1 - 1)) (h2 : Fit .i64 (x1 + 1)) (h3 : callInf cfg 65 [Value.slice x0a x0n x0c, Value.int .i64 (x1 - 1), Value.int .i64 x1, Value.int .i64 (x1 + 1), Value.pointer (some ⟨x2p, x2o, some x2l⟩)] (List.length H) H = some (Value.int .i64 x14, H)) : callInf cfg 64 [.slice x0a x0n x0c, .int .i64 x1, .pointer (some ⟨x2p, x2o, some x2l⟩)] prot H = some (Value.int .i64 x14, H) :=
  fn_of2 a64 [.e, .e, .v (.int .i64 x14)] (ai h1 (ai h2 (ai h3 (Eq.refl ((Value.int .i64 x14, H) : Value × AHeap))))) (by kernel_rfl) rfl
end Go.Proofs.YtkemihfaohkoeaaDoor.Am11d
set_option linter.unusedVariables false
open Go Go.Proofs.YtkemihfaohkoeaaDoor.Am
namespace Go.Proofs.YtkemihfaohkoeaaDoor.Am11d
theorem f65_F_0 {x0a : Option Addr} {x0n x0c : Nat} {x1 x2 x3 : Int} {x4p x4o x4l : Nat} {H : AHeap} {prot : Nat} {x16a x16b x24a x24b x32a x32b : Int} (h1 : callInf cfg 67 [Value.slice x0a x0n x0c, Value.int .i64 x1, Value.int .i64 x2, Value.pointer (some ⟨x4p, x4o, some x4l⟩)] (List.length H) H = some (Value.tuple { toList := [Value.int .i64 x16a, Value.int .i64 x16b] }, H)) (h2 : callInf cfg 67 [Value.slice x0a x0n x0c, Value.int .i64 x16b, Value.int .i64 x3, Value.pointer (some ⟨x4p, x4o, some x4l⟩)] (List.length H) H = some (Value.tuple { toList := [Value.int .i64 x24a, Value.int .i64 x24b] }, H)) (h3 : callInf cfg 67 [Value.slice x0a x0n x0c, Value.int .i64 x16a, Value.int .i64 x24a, Value.pointer (some ⟨x4p, x4o, some x4l⟩)] (List.length H) H = some (Value.tuple { toList := [Value.int .i64 x32a, Value.int .i64 x32b] }, H)) : callInf cfg 65 [.slice x0a x0n x0c, .int .i64 x1, .int .i64 x2, .int .i64 x3, .pointer (some ⟨x4p, x4o, some x4l⟩)] prot H = some (Value.int .i64 x32b, H) :=
  fn_of2 a65 [.v (.tuple #[.int .i64 x16a, .int .i64 x16b]), .v (.tuple #[.int .i64 x24a, .int .i64 x24b]), .v (.tuple #[.int .i64 x32a, .int .i64 x32b])] (ai h1 (ai h2 (ai h3 (Eq.refl ((Value.int .i64 x32b, H) : Value × AHeap))))) (by kernel_rfl) rfl
end Go.Proofs.YtkemihfaohkoeaaDoor.Am11d
set_option linter.unusedVariables false
open Go Go.Proofs.YtkemihfaohkoeaaDoor.Am
namespace Go.Proofs.YtkemihfaohkoeaaDoor.Am11d
theorem f66_F_0 {x0 : Int} {H : AHeap} {prot : Nat}  : callInf cfg 66 [.int .i64 x0] prot H = some (Value.bool (x0 != x0), H) :=
  fn_of2 a66 [.e] (Eq.refl ((Value.bool (x0 != x0), H) : Value × AHeap)) (by kernel_rfl) rfl
end Go.Proofs.YtkemihfaohkoeaaDoor.Am11d
set_option linter.unusedVariables false
open Go Go.Proofs.YtkemihfaohkoeaaDoor.Am
namespace Go.Proofs.YtkemihfaohkoeaaDoor.Am11d
theorem f67_F_1 {x0a : Option Addr} {x0n x0c : Nat} {x1 x2 : Int} {x3p x3o x3l : Nat} {H : AHeap} {prot x12p x12o x12l : Nat} {x13 : Int} {x16p x16o x16l : Nat} {x17 : Int} {x18 : Bool} (h1 : aindexAddr cfg.P 24 (Value.slice x0a x0n x0c) (Value.int .i64 x2) = some (Value.pointer (some ⟨x12p, x12o, some x12l⟩))) (h2 : getCells H x12p x12l x12o 1 = some [Value.int .i64 x13]) (h3 : aindexAddr cfg.P 24 (Value.slice x0a x0n x0c) (Value.int .i64 x1) = some (Value.pointer (some ⟨x16p, x16o, some x16l⟩))) (h4 : getCells H x16p x16l x16o 1 = some [Value.int .i64 x17]) (h5 : callInf cfg 56 [Value.int .i64 x13, Value.int .i64 x17] (List.length H) H = some (Value.bool x18, H)) (h6 : x18 = false) : callInf cfg 67 [.slice x0a x0n x0c, .int .i64 x1, .int .i64 x2, .pointer (some ⟨x3p, x3o, some x3l⟩)] prot H = some (Value.tuple { toList := [Value.int .i64 x1, Value.int .i64 x2] }, H) :=
  fn_of2 a67 [.v (.pointer (some ⟨x12p, x12o, some x12l⟩)), .v (.int .i64 x13), .v (.pointer (some ⟨x16p, x16o, some x16l⟩)), .v (.int .i64 x17), .v (.bool x18), .b false] (ai h1 (ai h2 (ai h3 (ai h4 (ai h5 (ai h6 (Eq.refl ((Value.tuple { toList := [Value.int .i64 x1, Value.int .i64 x2] }, H) : Value × AHeap)))))))) (by kernel_rfl) rfl
end Go.Proofs.YtkemihfaohkoeaaDoor.Am11d
namespace Go.Proofs.YtkemihfaohkoeaaDoor.Am11d
open Go Go.Proofs.YtkemihfaohkoeaaDoor.Am
/-! A list that rises is sorted: it stays. -/
def Ris (l : List Nat) : Prop := ∀ i j, i ≤ j → j < l.length → l.getD i 0 ≤ l.getD j 0
theorem nl_at {l : List Nat} {i : Nat} (h : i < l.length) : (il (nl l))[i]? = some (.int .i64 ((l.getD i 0 : Nat) : Int)) := by
  unfold il nl
  rw [List.getElem?_map, List.getElem?_map, List.getElem?_eq_getElem h, List.getD_eq_getElem?_getD, List.getElem?_eq_getElem h]; rfl
theorem c57 (x y : Nat) (prot : Nat) (H : AHeap) : callInf cfg 56 [.int .i64 x, .int .i64 y] prot H = some (.bool (decide ((x : Int) < (y : Int))), H) := by
  exact f56_F_2 (x6 := ((x : Int) != (x : Int))) f66_F_0 (by simp)
theorem c57_no {x y : Nat} (h : y ≤ x) (prot : Nat) (H : AHeap) : callInf cfg 56 [.int .i64 x, .int .i64 y] prot H = some (.bool false, H) := by
  rw [c57, decide_eq_false (by omega)]
theorem rd_prev {H : AHeap} {x : Value} {L : List Nat} (hx : Rd H 3 1 x L.length (il (nl L))) {i : Nat} (hi : i < L.length) (hp : 0 < i) :
    ∃ id M, aindexAddr cfg.P 24 x (.int .i64 ((i : Int) - 1)) = some (.pointer (some ⟨id, i - 1, some M⟩)) ∧ getCells H id M (i - 1) 1 = some [.int .i64 ((L.getD (i - 1) 0 : Nat) : Int)] := by
  obtain ⟨id, M, a, b⟩ := rd_at T34 hx (nl_at (show i - 1 < L.length by omega))
  exact ⟨id, M, by rw [show (i : Int) - 1 = ((i - 1 : Nat) : Int) by omega]; exact a, b⟩
theorem loop51 {L : List Nat} (hs : Ris L) (hn : L.length ≤ 100000000) {x : Value} {H0 H : AHeap} {prot : Nat} (hx : Rd H 3 1 x L.length (il (nl L))) : ∀ (d i : Nat), i + d = L.length → 0 < i →
    lpInf (lpOf cfg a50 0 prot H0) ([x, .int .i64 0, .int .i64 L.length, .int .i64 i], H) = some (.exit 0, [], H)
  | 0, i, hi, hp => by
    obtain ⟨_, _, rfl⟩ := hx.len
    exact lp_last (f50_L0_1 (by omega))
  | d + 1, i, hi, hp => by
    have hil : i < L.length := by omega
    obtain ⟨i1, M1, a1, a2⟩ := rd_at T34 hx (nl_at hil)
    obtain ⟨i2, M2, b1, b2⟩ := rd_prev hx hil hp
    have h57 := c57_no (hs (i - 1) i (by omega) hil) prot H
    have ih := loop51 hs hn hx (H0 := H0) (prot := prot) d (i + 1) (by omega) (by omega)
    obtain ⟨_, _, rfl⟩ := hx.len
    refine lp_next (f50_L0_0 (by omega) (lp_last (f50_L1_1 (by omega) a1 a2 (fit64 (by omega) (by omega)) b1 b2 h57 rfl)) (fit64 (by omega) (by omega))) ih
theorem c51 {L : List Nat} (hs : Ris L) (hn : L.length ≤ 100000000) {x : Value} (prot : Nat) {H : AHeap} (hx : Rd H 3 1 x L.length (il (nl L))) :
    callInf cfg 50 [x, .int .i64 0, .int .i64 L.length] prot H = some (.tuple #[], H) := by
  have key : lpInf (lpOf cfg a50 0 prot H) ([x, .int .i64 0, .int .i64 L.length, .int .i64 (0 + 1)], H) = some (.exit 0, [], H) := by
    by_cases h : 0 < L.length
    · exact loop51 hs hn hx (H0 := H) (prot := prot) (L.length - 1) 1 (by omega) (by omega)
    · obtain ⟨_, _, rfl⟩ := hx.len
      exact lp_last (f50_L0_1 (by omega))
  obtain ⟨_, _, rfl⟩ := hx.len
  exact f50_F_0 (fit64 (by omega) (by omega)) key

theorem loop56 {L : List Nat} (hs : Ris L) (hn : L.length ≤ 100000000) {x : Value} {H0 H : AHeap} {prot : Nat} {j : Int} (hx : Rd H 3 1 x L.length (il (nl L))) : ∀ (d i : Nat), i + d = L.length → 0 < i →
    lpInf (lpOf cfg a55 1 prot H0) ([x, .int .i64 0, .int .i64 L.length, .int .i64 i, .int .i64 j], H) = some (.exit 2, [x, .int .i64 0, .int .i64 L.length, .int .i64 L.length, .int .i64 j], H)
  | 0, i, hi, hp => by
    have he : i = L.length := by omega
    subst he
    obtain ⟨_, _, rfl⟩ := hx.len
    exact lp_last (f55_L1_2 (by omega))
  | d + 1, i, hi, hp => by
    have hil : i < L.length := by omega
    obtain ⟨i1, M1, a1, a2⟩ := rd_at T34 hx (nl_at hil)
    obtain ⟨i2, M2, b1, b2⟩ := rd_prev hx hil hp
    have h57 := c57_no (hs (i - 1) i (by omega) hil) prot H
    have ih := loop56 hs hn hx (H0 := H0) (prot := prot) (j := j) d (i + 1) (by omega) (by omega)
    obtain ⟨_, _, rfl⟩ := hx.len
    exact lp_next (f55_L1_1 (by omega) a1 a2 (fit64 (by omega) (by omega)) b1 b2 h57 rfl (fit64 (by omega) (by omega))) ih
theorem c56 {L : List Nat} (hs : Ris L) (hn : L.length ≤ 100000000) (h0 : 0 < L.length) {x : Value} (prot : Nat) {H : AHeap} (hx : Rd H 3 1 x L.length (il (nl L))) :
    callInf cfg 55 [x, .int .i64 0, .int .i64 L.length] prot H = some (.bool true, H) := by
  have key := loop56 hs hn hx (H0 := H) (prot := prot) (j := 0) (L.length - 1) 1 (by omega) (by omega)
  obtain ⟨_, _, rfl⟩ := hx.len
  exact f55_F_1 (fit64 (by omega) (by omega)) (lp_last (f55_L0_0 (by omega) key (by simp)))

theorem c68 {L : List Nat} (hs : Ris L) {x : Value} (prot : Nat) {H : AHeap} (hx : Rd H 3 1 x L.length (il (nl L))) {a b p q r : Nat} (hab : a ≤ b) (hb : b < L.length) :
    callInf cfg 67 [x, .int .i64 a, .int .i64 b, .pointer (some ⟨p, q, some r⟩)] prot H = some (.tuple #[.int .i64 a, .int .i64 b], H) := by
  obtain ⟨i1, M1, a1, a2⟩ := rd_at T34 hx (nl_at hb)
  obtain ⟨i2, M2, b1, b2⟩ := rd_at T34 hx (nl_at (show a < L.length by omega))
  have h57 := c57_no (hs a b hab hb) H.length H
  obtain ⟨_, _, rfl⟩ := hx.len
  exact f67_F_1 a1 a2 b1 b2 h57 rfl
theorem c66 {L : List Nat} (hs : Ris L) {x : Value} (prot : Nat) {H : AHeap} (hx : Rd H 3 1 x L.length (il (nl L))) {a b c p q r : Nat} (hab : a ≤ b) (hbc : b ≤ c) (hc : c < L.length) :
    callInf cfg 65 [x, .int .i64 a, .int .i64 b, .int .i64 c, .pointer (some ⟨p, q, some r⟩)] prot H = some (.int .i64 b, H) := by
  have h1 := c68 hs H.length hx (p := p) (q := q) (r := r) hab (show b < L.length by omega)
  have h2 := c68 hs H.length hx (p := p) (q := q) (r := r) hbc hc
  obtain ⟨_, _, rfl⟩ := hx.len
  exact f65_F_0 h1 h2 h1
theorem c65 {L : List Nat} (hs : Ris L) (hn : L.length ≤ 100000000) {x : Value} (prot : Nat) {H : AHeap} (hx : Rd H 3 1 x L.length (il (nl L))) {i p q r : Nat} (h0 : 0 < i) (hi : i + 1 < L.length) {z : Int} (hz : z = i) :
    callInf cfg 64 [x, .int .i64 z, .pointer (some ⟨p, q, some r⟩)] prot H = some (.int .i64 i, H) := by
  subst hz
  have h1 := c66 hs H.length hx (p := p) (q := q) (r := r) (a := i - 1) (b := i) (c := i + 1) (by omega) (by omega) hi
  rw [show ((i - 1 : Nat) : Int) = (i : Int) - 1 by omega, show ((i + 1 : Nat) : Int) = (i : Int) + 1 by omega] at h1
  obtain ⟨_, _, rfl⟩ := hx.len
  exact f64_F_0 (fit64 (by omega) (by omega)) (fit64 (by omega) (by omega)) h1
theorem c54 {L : List Nat} (hs : Ris L) (hn : L.length ≤ 100000000) (h0 : 13 ≤ L.length) {x : Value} (prot : Nat) {H : AHeap} (hx : Rd H 3 1 x L.length (il (nl L))) :
    ∃ b : Int, callInf cfg 53 [x, .int .i64 0, .int .i64 L.length] prot H = some (.tuple #[.int .i64 b, .int .i64 1], H) := by
  have ed : ((L.length : Int) - 0).tdiv 4 = ((L.length / 4 : Nat) : Int) := by rw [Int.sub_zero, show (4 : Int) = ((4 : Nat) : Int) from rfl, Int.ofNat_tdiv]
  obtain ⟨q, hq⟩ : ∃ q, q = L.length / 4 := ⟨_, rfl⟩
  rw [← hq] at ed
  obtain ⟨HA, hHA⟩ : ∃ HA, HA = H ++ [vo [.int .i64 0] 3] := ⟨_, rfl⟩
  have sA : Stay none H HA := by rw [hHA]; exact Stay.app none H _
  have hxA := hx.stay sA
  have hg : getCells HA H.length [Value.int .i64 0].length 0 1 = some [.int .i64 0] := by
    rw [hHA]
    unfold getCells
    rw [append_get.1]
    rfl
  have e1 : (0 : Int) + ((L.length : Int) - 0).tdiv 4 * 1 = (q : Int) := by rw [ed]; omega
  have e2 : (0 : Int) + ((L.length : Int) - 0).tdiv 4 * 2 = ((q * 2 : Nat) : Int) := by rw [ed]; omega
  have e3 : (0 : Int) + ((L.length : Int) - 0).tdiv 4 * 3 = ((q * 3 : Nat) : Int) := by rw [ed]; omega
  have f0 : Fit .i64 ((L.length : Int) - 0) := fit64 (by omega) (by omega)
  have f1 : Fit .i64 (((L.length : Int) - 0).tdiv 4) := by rw [ed]; exact fit64 (by omega) (by omega)
  have f2 : Fit .i64 (((L.length : Int) - 0).tdiv 4 * 1) := by rw [ed]; exact fit64 (by omega) (by omega)
  have f3 : Fit .i64 (0 + ((L.length : Int) - 0).tdiv 4 * 1) := by rw [ed]; exact fit64 (by omega) (by omega)
  have f4 : Fit .i64 (((L.length : Int) - 0).tdiv 4 * 2) := by rw [ed]; exact fit64 (by omega) (by omega)
  have f5 : Fit .i64 (0 + ((L.length : Int) - 0).tdiv 4 * 2) := by rw [ed]; exact fit64 (by omega) (by omega)
  have f6 : Fit .i64 (((L.length : Int) - 0).tdiv 4 * 3) := by rw [ed]; exact fit64 (by omega) (by omega)
  have f7 : Fit .i64 (0 + ((L.length : Int) - 0).tdiv 4 * 3) := by rw [ed]; exact fit64 (by omega) (by omega)
  have h66 := c66 hs H.length hxA (p := H.length) (q := 0) (r := [Value.int .i64 0].length) (a := q) (b := q * 2) (c := q * 3) (by omega) (by omega) (by omega)
  by_cases h50 : 50 ≤ L.length
  · have g1 := c65 hs hn H.length hxA (p := H.length) (q := 0) (r := [Value.int .i64 0].length) (i := q) (by omega) (by omega) e1
    have g2 := c65 hs hn H.length hxA (p := H.length) (q := 0) (r := [Value.int .i64 0].length) (i := q * 2) (by omega) (by omega) e2
    have g3 := c65 hs hn H.length hxA (p := H.length) (q := 0) (r := [Value.int .i64 0].length) (i := q * 3) (by omega) (by omega) e3
    subst hHA
    obtain ⟨_, _, rfl⟩ := hx.len
    exact ⟨_, f53_F_0 f0 f1 f2 f3 f4 f5 f6 f7 (by omega) (by omega) g1 g2 g3 h66 hg rfl⟩
  · rw [← e1, ← e2, ← e3] at h66
    subst hHA
    obtain ⟨_, _, rfl⟩ := hx.len
    exact ⟨_, f53_F_3 f0 f1 f2 f3 f4 f5 f6 f7 (by omega) (by omega) h66 hg rfl⟩

theorem t8_pos : ∀ i : Fin 256, 1 ≤ i.val → 0 < (T8.get! i.val).toNat := by decide +kernel
theorem t8_size : T8.size = 256 := by kernel_rfl
theorem u8_small {n : Nat} (h : n < 256) : IntKind.u8.wrap (n : Int) = (n : Int) := by
  simp only [IntKind.wrap]
  show (if (false && decide ((n : Int) % (256 : Int) ≥ (128 : Int))) = true then (n : Int) % (256 : Int) - 256 else (n : Int) % (256 : Int)) = _
  rw [if_neg (by simp)]
  omega
theorem c61 {n : Nat} (hn : n ≤ 10000000) (prot : Nat) (H : AHeap) : ∃ r : Int, callInf cfg 60 [.int .u64 n] prot H = some (.int .i64 r, H) ∧ (13 ≤ n → r ≠ 0) := by
  have fb : ∀ (b : UInt8) (c : Int), 0 ≤ c → c ≤ 1000 → Fit .i64 (c + (b.toNat : Int)) := fun b c h1 h2 => fit64 (by omega) (by have := b.toNat_lt; omega)
  have fb0 : ∀ (b : UInt8), Fit .i64 (b.toNat : Int) := fun b => fit64 (by omega) (by have := b.toNat_lt; omega)
  have d16 : (n : Int).fdiv (2 ^ min (Int.toNat 16) IntKind.u64.bits) = ((n / 65536 : Nat) : Int) := by
    show (n : Int).fdiv 65536 = _
    rw [Int.fdiv_eq_ediv_of_nonneg _ (by omega)]
    omega
  have d8 : (n : Int).fdiv (2 ^ min (Int.toNat 8) IntKind.u64.bits) = ((n / 256 : Nat) : Int) := by
    show (n : Int).fdiv 256 = _
    rw [Int.fdiv_eq_ediv_of_nonneg _ (by omega)]
    omega
  by_cases h1 : 65536 ≤ n
  · refine ⟨_, f60_F_5 (x0 := (n : Int)) (H := H) (prot := prot) (by omega) (by omega) (by omega) (fit64 (by omega) (by omega)) (by rw [d16]; omega) (by rw [d16, u8_small (by omega)]; omega) (by rw [d16, u8_small (by omega), t8_size]; omega) (fb0 _) (fb _ _ (by omega) (by omega)), fun _ => by omega⟩
  · by_cases h2 : 256 ≤ n
    · refine ⟨_, f60_F_6 (x0 := (n : Int)) (H := H) (prot := prot) (by omega) (by omega) (by omega) (by omega) (fit64 (by omega) (by omega)) (by rw [d8, u8_small (by omega)]; omega) (by rw [d8, u8_small (by omega), t8_size]; omega) (fb0 _) (fb _ _ (by omega) (by omega)), fun _ => by omega⟩
    · refine ⟨_, f60_F_7 (x0 := (n : Int)) (H := H) (prot := prot) (by omega) (by omega) (by omega) (by rw [u8_small (by omega)]; omega) (by rw [u8_small (by omega), t8_size]; omega) (fb0 _) (fb _ _ (by omega) (by omega)), fun h3 => ?_⟩
      rw [u8_small (by omega), Int.toNat_natCast]
      have := t8_pos ⟨n, by omega⟩ (by show 1 ≤ n; omega)
      simp only at this
      omega
theorem c45 {L : List Nat} (hs : Ris L) (hn : L.length ≤ 10000000) {x : Value} (prot : Nat) {H : AHeap} (hx : Rd H 3 1 x L.length (il (nl L))) :
    callInf cfg 37 [x] prot H = some (.tuple #[], H) := by
  obtain ⟨r, h61, hr⟩ := c61 hn H.length H
  have h49 : callInf cfg 46 [.int .u64 (IntKind.u64.wrap (L.length : Int))] prot H = some (.int .i64 r, H) := by
    rw [show IntKind.u64.wrap (L.length : Int) = (L.length : Int) by
      simp only [IntKind.wrap]
      show (if (false && decide ((L.length : Int) % (18446744073709551616 : Int) ≥ (9223372036854775808 : Int))) = true then (L.length : Int) % (18446744073709551616 : Int) - 18446744073709551616 else (L.length : Int) % (18446744073709551616 : Int)) = _
      rw [if_neg (by simp)]
      omega]
    exact f46_F_0 h61
  have h48 : callInf cfg 45 [x, .int .i64 0, .int .i64 L.length, .int .i64 r] prot H = some (.tuple #[], H) := by
    by_cases h : L.length ≤ 12
    · have h51 := c51 hs (by omega) prot hx
      obtain ⟨_, _, rfl⟩ := hx.len
      exact f45_F_0 (lp_last (f45_L0_0 (fit64 (by omega) (by omega)) (by omega) h51))
    · obtain ⟨b, h54⟩ := c54 hs (by omega) (by omega) prot hx
      have h56 := c56 hs (by omega) (by omega) prot hx
      have hr0 : (r == 0) = false := by rw [beq_eq_false_iff_ne]; exact hr (by omega)
      obtain ⟨_, _, rfl⟩ := hx.len
      exact f45_F_0 (lp_last (f45_L0_18 (fit64 (by omega) (by omega)) (by omega) hr0 rfl h54 rfl rfl rfl rfl h56 rfl))
  obtain ⟨_, _, rfl⟩ := hx.len
  exact f37_F_0 h49 h48
end Go.Proofs.YtkemihfaohkoeaaDoor.Am11d
namespace Go.Proofs.YtkemihfaohkoeaaDoor.Am
open Go
/-- A row of one's own, it may be empty. -/
def OwnE (H : AHeap) (e : Nat) (x : Value) (n : Nat) (cs : List Value) (b : Nat) : Prop :=
  (∃ o, Own H e 1 x o n cs ∧ ∀ id, o = some id → b ≤ id) ∨ (n = 0 ∧ cs = [] ∧ ∃ id, x = .slice (some ⟨id, 0, some 0⟩) 0 0 ∧ b ≤ id ∧ H[id]? = some (.cells [] e 0 .row))
theorem OwnE.rd {H : AHeap} {e n b : Nat} {x : Value} {cs : List Value} (h : OwnE H e x n cs b) : Rd H e 1 x n cs := by
  rcases h with ⟨o, h, _⟩ | ⟨rfl, rfl, id, rfl, _, h⟩
  · exact h.rd
  · exact ⟨rfl, .inr ⟨id, 0, 0, .row, 0, [], rfl, Nat.le_refl _, Nat.le_refl _, Nat.le_refl _, h, rfl⟩⟩
theorem OwnE.stay {H H' : AHeap} {e n b : Nat} {x : Value} {cs : List Value} (h : OwnE H e x n cs b) (s : Stay none H H') : OwnE H' e x n cs b := by
  rcases h with ⟨o, h, h2⟩ | ⟨rfl, rfl, id, rfl, h1, h⟩
  · exact .inl ⟨o, h.stay s (fun _ _ h => by cases h), h2⟩
  · exact .inr ⟨rfl, rfl, id, rfl, h1, by rw [s.2 id (List.getElem?_eq_some_iff.1 h).1 (by simp)]; exact h⟩
theorem OwnE.weak {H : AHeap} {e n b c : Nat} {x : Value} {cs : List Value} (h : OwnE H e x n cs b) (hc : c ≤ b) : OwnE H e x n cs c := by
  rcases h with ⟨o, h, h2⟩ | ⟨a1, a2, id, a3, h1, h⟩
  · exact .inl ⟨o, h, fun id e => Nat.le_trans hc (h2 id e)⟩
  · exact .inr ⟨a1, a2, id, a3, Nat.le_trans hc h1, h⟩
/-- It is handed back. -/
theorem gcE {H H1 : AHeap} {e n : Nat} {x : Value} {cs : List Value} (h : OwnE H1 e x n cs H.length) (hp : cs.all plain0 = true) {ps : List Value} (hps : ps.all plain1 = true) :
    ∃ x' H', gc H (x :: ps) H1 = (tupled (x' :: ps), H') ∧ OwnE H' e x' n cs H.length ∧ Stay none H H' := by
  rcases h with ⟨o, h, h2⟩ | ⟨rfl, rfl, id, rfl, h1, h⟩
  · obtain ⟨x', o', H', g1, g2, g3, g4, _⟩ := gc_row h h2 hp hps
    exact ⟨x', H', g1, .inl ⟨o', g2, g4⟩, g3⟩
  · refine ⟨.slice (some ⟨H.length, 0, some 0⟩) 0 0, H ++ [.cells [] e 0 .row], ?_, .inr ⟨rfl, rfl, H.length, rfl, Nat.le_refl _, append_get.1⟩, Stay.app none H _⟩
    unfold gc
    simp only [gcHeap]
    simp only [sliceIds, sliceIds_plain ps hps, noDup, List.contains_nil, Bool.not_false, Bool.and_self, if_true, keepAll, keep1]
    rw [if_neg (by omega), h]
    simp only
    rw [if_pos ⟨rfl, by simp⟩, Option.bind_some, keepAll_plain ps _ hps]
    simp
theorem own_mk {e n : Nat} (hn : 0 < n) (H : AHeap) (c : Value) : Own (H ++ [.cells (repCells [c] n) e (repCells [c] n).length .row]) e 1 (.slice (some ⟨H.length, 0, some (n * 1)⟩) n n) (some H.length) n (List.replicate n c) := by
  have e1 : repCells [c] n = List.replicate n c := by
    have := rep_map (fun _ : Nat => c) 0 n
    rw [this, List.map_replicate]
  rw [e1]
  exact own_new (by simp) hn (by simp) rfl
end Go.Proofs.YtkemihfaohkoeaaDoor.Am
namespace Go.Proofs.YtkemihfaohkoeaaDoor.Am
open Go
/-! Lists that are their maker's own: marked, and grown in turn. -/
theorem Rd.stayE {H H' : AHeap} {e s : Nat} {x : Value} {n : Nat} {cs : List Value} (h : Rd H e s x n cs) {p e' wr : Nat} {l : List Value} {md : OMode} (hp : H[p]? = some (.cells l e' wr md)) (hne : e' ≠ e) (k : Stay (some p) H H') : Rd H' e s x n cs := by
  refine ⟨h.1, ?_⟩
  rcases h.2 with h2 | ⟨id, L, wr2, md2, c, all, h2, h3, h4, h5, h6, h7⟩
  · exact .inl h2
  · refine .inr ⟨id, L, wr2, md2, c, all, h2, h3, h4, h5, ?_, h7⟩
    rw [k.2 id (List.getElem?_eq_some_iff.1 h6).1 (fun e1 => ?_)]
    · exact h6
    · have := Option.some.inj e1
      subst this
      rw [hp] at h6
      cases h6
      exact hne rfl
theorem Own.stayE {H H' : AHeap} {e s : Nat} {x : Value} {o : Option Nat} {n : Nat} {cs : List Value} (h : Own H e s x o n cs) {p e' wr : Nat} {l : List Value} {md : OMode} (hp : H[p]? = some (.cells l e' wr md)) (hne : e' ≠ e) (k : Stay (some p) H H') : Own H' e s x o n cs := by
  refine h.stay k (fun id e1 e2 => ?_)
  have := Option.some.inj e2
  subst this
  subst e1
  obtain ⟨_, _, _, wr2, _, h2⟩ := h
  rw [hp] at h2
  cases h2
  exact hne rfl

/-- A row of one's own. -/
def RX (H : AHeap) (e : Nat) (r : Value) (n : Nat) (o : Option Nat) (vs : List Value) : Prop :=
  match o with
  | none => n = 0 ∧ vs = [] ∧ (r = .slice none 0 0 ∨ r = emptySlice)
  | some id => vs.length = n ∧ r = .slice (some ⟨id, 0, some n⟩) n n ∧ ∃ wr, wr ≤ n ∧ H[id]? = some (.cells vs e wr .row)
theorem Own.rx {H : AHeap} {e : Nat} {x : Value} {o : Option Nat} {n : Nat} {cs : List Value} (h : Own H e 1 x o n cs) : RX H e x n o cs := by
  have h1 := h.1
  have h2 := h.2
  cases o with
  | none => exact ⟨h2.1, List.eq_nil_of_length_eq_zero (by rw [h1, h2.1]), h2.2⟩
  | some id =>
    obtain ⟨a, b, wr, c, d⟩ := h2
    rw [Nat.mul_one] at h1
    rw [h1] at b c
    exact ⟨h1, b, wr, c, d⟩
theorem OwnE.rx {H : AHeap} {e n b : Nat} {x : Value} {cs : List Value} (h : OwnE H e x n cs b) : ∃ o, RX H e x n o cs ∧ ∀ id, o = some id → b ≤ id := by
  rcases h with ⟨o, h, h2⟩ | ⟨rfl, rfl, id, rfl, h1, h⟩
  · exact ⟨o, h.rx, h2⟩
  · exact ⟨some id, ⟨rfl, rfl, 0, Nat.le_refl _, h⟩, fun i e => by cases e; exact h1⟩
theorem RX.stay {H H' : AHeap} {e : Nat} {r : Value} {n : Nat} {o o' : Option Nat} {vs : List Value} (h : RX H e r n o vs) (k : Stay o' H H') (hne : ∀ id, o = some id → o' ≠ some id) : RX H' e r n o vs := by
  cases o with
  | none => exact h
  | some id =>
    obtain ⟨a, b, wr, c, d⟩ := h
    exact ⟨a, b, wr, c, by rw [k.2 id (List.getElem?_eq_some_iff.1 d).1 (hne id rfl)]; exact d⟩
theorem RX.stayE {H H' : AHeap} {e : Nat} {r : Value} {n : Nat} {o : Option Nat} {vs : List Value} (h : RX H e r n o vs) {p e' wr : Nat} {l : List Value} {md : OMode} (hp : H[p]? = some (.cells l e' wr md)) (hne : e' ≠ e) (k : Stay (some p) H H') : RX H' e r n o vs := by
  refine h.stay k (fun id e1 e2 => ?_)
  have := Option.some.inj e2
  subst this
  subst e1
  obtain ⟨_, _, wr2, _, h2⟩ := h
  rw [hp] at h2
  cases h2
  exact hne rfl
theorem RX.lt {H : AHeap} {e : Nat} {r : Value} {n id : Nat} {vs : List Value} (h : RX H e r n (some id) vs) : id < H.length := by
  obtain ⟨_, _, _, _, h2⟩ := h
  exact (List.getElem?_eq_some_iff.1 h2).1
theorem RX.len {H : AHeap} {e : Nat} {r : Value} {n : Nat} {o : Option Nat} {vs : List Value} (h : RX H e r n o vs) : ∃ a c, r = .slice a n c := by
  cases o with
  | none =>
    obtain ⟨rfl, _, rfl | rfl⟩ := h
    · exact ⟨_, _, rfl⟩
    · exact ⟨_, _, rfl⟩
  | some id => exact ⟨_, _, h.2.1⟩
theorem put_one (L : List Value) {i : Nat} (hi : i < L.length) (v : Value) : putList L i [v] = L.set i v := by
  unfold putList
  rw [List.set_eq_take_append_cons_drop, if_pos hi]
  simp
/-- A mark. -/
theorem RX.set {P : Program} {t e by_ : Nat} (T : ElemT P t e 1 by_) {H : AHeap} {r : Value} {n : Nat} {o : Option Nat} {vs : List Value} (h : RX H e r n o vs) {k : Nat} (hk : k < n) {v : Value} (hv : isCell v = true) {prot : Nat} (hp : ∀ id, o = some id → prot ≤ id) :
    ∃ id H', o = some id ∧ aindexAddr P t r (.int .i64 (k : Nat)) = some (.pointer (some ⟨id, k, some n⟩)) ∧ setCells H prot id n k [v] = some H' ∧ RX H' e r n o (vs.set k v) ∧ Stay (some id) H H' ∧ ∃ l wr, H[id]? = some (.cells l e wr .row) := by
  cases o with
  | none => obtain ⟨rfl, _⟩ := h; omega
  | some id =>
    obtain ⟨a, b, wr, c, d⟩ := h
    have hi : aindexAddr P t r (.int .i64 (k : Nat)) = some (.pointer (some ⟨id, k, some n⟩)) := by
      rw [b]
      unfold aindexAddr
      rw [T.un]
      simp only [T.sz, Option.bind_some]
      rw [if_pos (by omega)]
      simp
    refine ⟨id, H.set id (.cells (vs.set k v) e n .row), rfl, hi, ?_, ⟨by rw [List.length_set]; exact a, b, n, Nat.le_refl _, List.getElem?_set_self (List.getElem?_eq_some_iff.1 d).1⟩, set_stay, _, _, d⟩
    unfold setCells
    rw [d]
    simp only
    rw [if_pos ⟨rfl, hp id rfl, a.symm, by simp; omega, by simp [hv]⟩, put_one vs (by omega)]
/-- One more at the end: what was written stays. -/
theorem app_wr {P : Program} {t e by_ : Nat} (T : ElemT P t e 1 by_) {H : AHeap} {id n wr : Nat} {vs : List Value} (hH : H[id]? = some (.cells vs e wr .row)) (hl : vs.length = n) {v : Value} (hv : isCell v = true) {prot : Nat} (hp : prot ≤ id) {room : Bool} (hroom : (n + 1) * by_ ≤ 140737488355328) {L : Nat} (hL : L = 1) {el : Nat} (hel : el = 1) :
    aappend P prot room t t (.slice (some ⟨id, 0, some n⟩) n n) (.slice (some ⟨H.length, 0, some L⟩) 1 1) (H ++ [.cells [v] e el .row]) = some (.slice (some ⟨id, 0, some (n + 1)⟩) (n + 1) (n + 1), (H ++ [AObj.cells [v] e el .row]).set id (AObj.cells (vs ++ [v]) e wr .row)) := by
  subst hL; subst hel
  obtain ⟨z, hz, hzl⟩ := T.ze
  have hlt := (List.getElem?_eq_some_iff.1 hH).1
  have hH' : (H ++ [AObj.cells [v] e 1 .row])[id]? = some (.cells vs e wr .row) := by rw [List.getElem?_append_left hlt]; exact hH
  have hsrc : srcCells P 1 t (.slice (some ⟨H.length, 0, some 1⟩) 1 1) (H ++ [AObj.cells [v] e 1 .row]) = some (1, [v]) := by
    unfold srcCells
    rw [T.un]
    simp only [cellsAt]
    unfold getCells
    rw [append_get.1]
    simp
  unfold aappend
  rw [T.sl, Option.bind_some, T.sz, Option.bind_some, T.bt, Option.bind_some, hz, Option.bind_some, if_pos ⟨rfl, by omega, T.b0, hzl⟩, hsrc, Option.bind_some]
  dsimp only
  rw [if_pos ⟨rfl, by simp [hv]⟩]
  simp only [Nat.one_ne_zero, if_false]
  rw [if_neg (by omega), hH']
  simp only [OMode.isRow, true_and]
  rw [if_pos ⟨hp, hl.symm, by omega, hroom⟩]
  simp

/-- A row and what it has grown to. -/
structure GK (H : AHeap) (e : Nat) (r g : Value) (n k : Nat) (o o' : Option Nat) (vs ws : List Value) : Prop where
  rl : ∃ a c, r = .slice a n c
  vl : vs.length = n
  wl : ws.length = k
  old : ∀ a, o = some a → o' = some a
  z : o = none → n = 0
  gl : (o' = none ∧ k = 0 ∧ (g = .slice none 0 0 ∨ g = emptySlice)) ∨ ∃ id wr, o' = some id ∧ g = .slice (some ⟨id, 0, some (n + k)⟩) (n + k) (n + k) ∧ wr ≤ n + k ∧ H[id]? = some (.cells (vs ++ ws) e wr .row) ∧ (0 < n → wr ≤ n ∧ r = .slice (some ⟨id, 0, some n⟩) n n)
theorem GK.stay {H H' : AHeap} {e : Nat} {r g : Value} {n k : Nat} {o o' p : Option Nat} {vs ws : List Value} (h : GK H e r g n k o o' vs ws) (s : Stay p H H') (hne : ∀ id, o' = some id → p ≠ some id) : GK H' e r g n k o o' vs ws := by
  refine ⟨h.rl, h.vl, h.wl, h.old, h.z, ?_⟩
  rcases h.gl with h | ⟨id, wr, a, b, c, d, f⟩
  · exact .inl h
  · exact .inr ⟨id, wr, a, b, c, by rw [s.2 id (List.getElem?_eq_some_iff.1 d).1 (hne id a)]; exact d, f⟩
theorem GK.stayE {H H' : AHeap} {e : Nat} {r g : Value} {n k : Nat} {o o' : Option Nat} {vs ws : List Value} (h : GK H e r g n k o o' vs ws) {p e' wr : Nat} {l : List Value} {md : OMode} (hp : H[p]? = some (.cells l e' wr md)) (hne : e' ≠ e) (s : Stay (some p) H H') : GK H' e r g n k o o' vs ws := by
  refine h.stay s (fun id e1 e2 => ?_)
  have := Option.some.inj e2
  subst this
  rcases h.gl with ⟨h1, _⟩ | ⟨id2, wr2, a, b, c, d, f⟩
  · rw [h1] at e1; cases e1
  · rw [e1] at a
    cases a
    rw [hp] at d
    cases d
    exact hne rfl
/-- It grows. -/
theorem GK.app {P : Program} {t e by_ : Nat} (T : ElemT P t e 1 by_) {H : AHeap} {r g : Value} {n k : Nat} {o o' : Option Nat} {vs ws : List Value} (h : GK H e r g n k o o' vs ws) {v : Value} (hv : isCell v = true) {prot : Nat} (hp : ∀ id, o' = some id → prot ≤ id) (hB : prot ≤ H.length) (hroom : (n + k + 1) * by_ ≤ 140737488355328) {L : Nat} (hL : L = 1) {el : Nat} (hel : el = 1) :
    ∃ id H', aappend P prot true t t g (.slice (some ⟨H.length, 0, some L⟩) 1 1) (H ++ [.cells [v] e el .row]) = some (.slice (some ⟨id, 0, some (n + (k + 1))⟩) (n + (k + 1)) (n + (k + 1)), H') ∧ GK H' e r (.slice (some ⟨id, 0, some (n + (k + 1))⟩) (n + (k + 1)) (n + (k + 1))) n (k + 1) o (some id) vs (ws ++ [v]) ∧ Stay o' H H' ∧ (∀ i, o' = some i → id = i) ∧ (o' = none → H.length ≤ id) := by
  rcases h.gl with ⟨rfl, rfl, hg⟩ | ⟨id, wr, rfl, rfl, c, d, f⟩
  · have ho : o = none := by
      cases ho : o with
      | none => rfl
      | some a => have := h.old a ho; cases this
    have hn := h.z ho
    have hvs : vs = [] := List.eq_nil_of_length_eq_zero (by rw [h.vl, hn])
    have hws : ws = [] := List.eq_nil_of_length_eq_zero h.wl
    subst hvs; subst hws; subst hn
    have h0 : Own H e 1 g none 0 [] := ⟨rfl, rfl, hg⟩
    obtain ⟨a', c', id, H', q1, q2, q3, q4, q5, q6⟩ := own_app T h0 (ecs := [v]) rfl (by simp [hv]) (prot := prot) (room := true) (fun id h => by cases h) hB (by omega) hL (el := el) hel
    obtain ⟨_, _, q7, wr, q8, q9⟩ := q2
    have e1 : ([] ++ [v] : List Value).length = 1 := rfl
    rw [e1] at q7 q8
    rw [Nat.zero_add] at q7
    rw [q7] at q1
    refine ⟨id, H', q1, ⟨h.rl, rfl, rfl, fun a ha => (by rw [ho] at ha; cases ha), h.z, .inr ⟨id, wr, rfl, rfl, q8, q9, fun hh => (by omega)⟩⟩, q3, fun i e => (by cases e), fun _ => q5 rfl⟩
  · have hl : (vs ++ ws).length = n + k := by rw [List.length_append, h.vl, h.wl]
    have ha := app_wr T d hl hv (hp id rfl) (room := true) hroom hL hel
    have hlt := (List.getElem?_eq_some_iff.1 d).1
    refine ⟨id, _, ha, ⟨h.rl, h.vl, by rw [List.length_append, h.wl]; rfl, h.old, h.z, .inr ⟨id, wr, rfl, rfl, by omega, ?_, f⟩⟩, (Stay.app (some id) H _).trans set_stay, fun i e => (by cases e; rfl), fun e => (by cases e)⟩
    rw [List.getElem?_set_self (by simp; omega), List.append_assoc]
theorem GK.rd {H : AHeap} {e : Nat} {r g : Value} {n k : Nat} {o o' : Option Nat} {vs ws : List Value} (h : GK H e r g n k o o' vs ws) : Rd H e 1 g (n + k) (vs ++ ws) ∧ (0 < n → Rd H e 1 r n vs) := by
  have hl : (vs ++ ws).length = n + k := by rw [List.length_append, h.vl, h.wl]
  rcases h.gl with ⟨h1, rfl, hg⟩ | ⟨id, wr, h1, rfl, c, d, f⟩
  · have hn : n = 0 := by
      cases ho : o with
      | none => exact h.z ho
      | some a => have := h.old a ho; rw [h1] at this; cases this
    have hvs : vs = [] := List.eq_nil_of_length_eq_zero (by rw [h.vl, hn])
    have hws : ws = [] := List.eq_nil_of_length_eq_zero h.wl
    subst hn; subst hvs; subst hws
    exact ⟨⟨rfl, .inl ⟨rfl, hg⟩⟩, fun hh => by omega⟩
  · refine ⟨⟨by rw [hl]; omega, .inr ⟨id, n + k, wr, .row, _, vs ++ ws, rfl, c, by omega, by omega, d, by rw [List.take_of_length_le (by omega)]⟩⟩, fun hn => ?_⟩
    obtain ⟨f1, f2⟩ := f hn
    have := h.vl
    exact ⟨by omega, .inr ⟨id, n, wr, .row, _, vs ++ ws, f2, f1, by omega, by omega, d, by rw [List.take_append_of_le_length (by omega), List.take_of_length_le (by omega)]⟩⟩
theorem GK.lt {H : AHeap} {e : Nat} {r g : Value} {n k : Nat} {o : Option Nat} {id : Nat} {vs ws : List Value} (h : GK H e r g n k o (some id) vs ws) : id < H.length := by
  rcases h.gl with ⟨h1, _⟩ | ⟨id2, wr, a, b, c, d, f⟩
  · cases h1
  · cases a
    exact (List.getElem?_eq_some_iff.1 d).1
end Go.Proofs.YtkemihfaohkoeaaDoor.Am
set_option linter.unusedVariables false
open Go Go.Proofs.YtkemihfaohkoeaaDoor.Am
namespace Go.Proofs.YtkemihfaohkoeaaDoor.Am11d
end Go.Proofs.YtkemihfaohkoeaaDoor.Am11d
namespace Go.Proofs.YtkemihfaohkoeaaDoor.Am11d
open Go Go.Proofs.YtkemihfaohkoeaaDoor.Am
/-- Rows of one's own, listed. -/
structure Rows (H : AHeap) (x0 : Value) (N : Nat) (r : Nat → Value) (n : Nat → Nat) (o : Nat → Option Nat) (V : Nat → List Int) : Prop where
  rd : ∃ cs, Rd H 24 1 x0 N cs ∧ ∀ j, j < N → cs[j]? = some (r j)
  rx : ∀ j, j < N → RX H 3 (r j) (n j) (o j) (il (V j))
theorem il_set (l : List Int) (k : Nat) (c : Int) : (il l).set k (.int .i64 c) = il (l.set k c) := by unfold il; rw [List.map_set]
/-- No two of them are one. -/
def Dis (N : Nat) (o : Nat → Option Nat) : Prop := ∀ i j, i < N → j < N → i ≠ j → ∀ a, o i = some a → o j ≠ some a
theorem Rows.set {H : AHeap} {x0 : Value} {N : Nat} {r : Nat → Value} {n : Nat → Nat} {o : Nat → Option Nat} {V : Nat → List Int} (h : Rows H x0 N r n o V) (hD : Dis N o) {i k : Nat} (hi : i < N) (hk : k < n i) (c : Int) {prot : Nat} (hp : ∀ j, j < N → ∀ a, o j = some a → prot ≤ a) :
    ∃ id H', aindexAddr cfg.P 24 (r i) (.int .i64 (k : Nat)) = some (.pointer (some ⟨id, k, some (n i)⟩)) ∧ setCells H prot id (n i) k [.int .i64 c] = some H' ∧ Rows H' x0 N r n o (fun j => if j = i then (V i).set k c else V j) ∧ H'.length = H.length := by
  obtain ⟨id, H', e, a1, a2, a3, a4, l, wr, a5⟩ := (h.rx i hi).set T34 hk (v := .int .i64 c) rfl (hp i hi)
  refine ⟨id, H', a1, a2, ⟨?_, fun j hj => ?_⟩, ?_⟩
  · obtain ⟨cs, h1, h2⟩ := h.rd
    exact ⟨cs, h1.stayE a5 (by decide) a4, h2⟩
  · by_cases e1 : j = i
    · subst e1
      rw [if_pos rfl, ← il_set]
      exact a3
    · rw [if_neg e1]
      exact (h.rx j hj).stay a4 (fun b hb e2 => hD i j hi hj (fun e => e1 e.symm) id e (by rw [hb]; exact e2.symm))
  · unfold setCells at a2
    rw [a5] at a2
    simp only at a2
    split at a2
    · cases a2; simp
    · cases a2

end Go.Proofs.YtkemihfaohkoeaaDoor.Am11d
set_option linter.unusedVariables false
open Go Go.Proofs.YtkemihfaohkoeaaDoor.Am
namespace Go.Proofs.YtkemihfaohkoeaaDoor.Am11d
theorem f23_F_0 {x0a : Option Addr} {x0n x0c : Nat} {H : AHeap} {prot : Nat} {z3a : Option Addr} {z3n z3c : Nat} {H1 : AHeap} {z3a_2 : Option Addr} {z3n_2 z3c_2 : Nat} {H2 : AHeap} (rv : Value) (rH : AHeap) (h1 : 0 ≤ (↑x0n : Int)) (h2 : (↑x0n : Int) = (↑x0n : Int)) (h3 : (↑x0n : Int) ≤ 9223372036854775807) (h4 : (↑24 : Int) * (↑x0n : Int) ≤ 2 ^ 48) (h5 : lpInf (lpOf cfg a23 0 prot H) ([Value.slice (some ⟨List.length H, 0, some ((↑x0n : Int).toNat * 1)⟩) (↑x0n : Int).toNat (↑x0n : Int).toNat, Value.slice x0a x0n x0c, Value.int .i64 (↑x0n : Int), Value.int .i64 0], H ++ [AObj.cells (repCells [Value.slice none 0 0] (↑x0n : Int).toNat) 24 (repCells [Value.slice none 0 0] (↑x0n : Int).toNat).length OMode.row]) = some (Ex.exit 0, [Value.slice z3a z3n z3c], H1)) (h6 : lpInf (lpOf cfg a23 2 prot H) ([Value.slice z3a z3n z3c, Value.slice z3a z3n z3c, Value.int .i64 (↑z3n : Int), Value.int .i64 0], H1) = some (Ex.exit 4, [Value.slice z3a_2 z3n_2 z3c_2], H2)) (h7 : pfin a23 H [Value.slice z3a_2 z3n_2 z3c_2] H2 = (rv, rH)) : callInf cfg 23 [.slice x0a x0n x0c] prot H = some (rv, rH) :=
  fn_of2 a23 [.e, .e, .e, .lo (.exit 0, [.slice z3a z3n z3c], H1), .e, .lo (.exit 4, [.slice z3a_2 z3n_2 z3c_2], H2)] (ai h1 (ai h2 (ai h3 (ai h4 (ai h5 (ai h6 h7)))))) (by kernel_rfl) rfl
theorem f23_L0_0 {x3a : Option Addr} {x3n x3c : Nat} {x13a : Option Addr} {x13n x13c : Nat} {x14 x15 : Int} {H0 : AHeap} {prot : Nat} {H : AHeap} {x18p x18o x18l : Nat} {x19a : Option Addr} {x19n x19c : Nat} {z3a : Option Addr} {z3n z3c : Nat} {z13a : Option Addr} {z13n z13c : Nat} {z14 z15 : Int} {H2 : AHeap} (h1 : x15 < x14) (h2 : aindexAddr cfg.P 22 (Value.slice x13a x13n x13c) (Value.int .i64 x15) = some (Value.pointer (some ⟨x18p, x18o, some x18l⟩))) (h3 : getCells H x18p x18l x18o 1 = some [Value.slice x19a x19n x19c]) (h4 : lpInf (lpOf cfg a23 1 prot H0) ([Value.slice x3a x3n x3c, Value.int .i64 x15, Value.slice x13a x13n x13c, Value.int .i64 x14, Value.int .i64 x15, Value.slice x19a x19n x19c, Value.int .i64 (↑x19n : Int), Value.int .i64 0], H) = some (Ex.exit 2, [Value.slice z3a z3n z3c, Value.slice z13a z13n z13c, Value.int .i64 z14, Value.int .i64 z15], H2)) (h5 : Fit .i64 (z15 + 1)) : lpOf cfg a23 0 prot H0 ([.slice x3a x3n x3c, .slice x13a x13n x13c, .int .i64 x14, .int .i64 x15], H) = some (Sum.inl ([Value.slice z3a z3n z3c, Value.slice z13a z13n z13c, Value.int .i64 z14, Value.int .i64 (z15 + 1)], H2)) :=
  lp_of2 [.e, .b true, .v (.pointer (some ⟨x18p, x18o, some x18l⟩)), .v (.slice x19a x19n x19c), .e, .lo (.exit 2, [.slice z3a z3n z3c, .slice z13a z13n z13c, .int .i64 z14, .int .i64 z15], H2), .e] (ai (decide_eq_true h1) (ai h2 (ai h3 (ai h4 (ai h5 (Eq.refl (Sum.inl ([Value.slice z3a z3n z3c, Value.slice z13a z13n z13c, Value.int .i64 z14, Value.int .i64 (z15 + 1)], H2) : LS ⊕ LO))))))) (by kernel_rfl)
theorem f23_L0_1 {x3a : Option Addr} {x3n x3c : Nat} {x13a : Option Addr} {x13n x13c : Nat} {x14 x15 : Int} {H0 : AHeap} {prot : Nat} {H : AHeap} (h1 : ¬(x15 < x14)) : lpOf cfg a23 0 prot H0 ([.slice x3a x3n x3c, .slice x13a x13n x13c, .int .i64 x14, .int .i64 x15], H) = some (Sum.inr (Ex.exit 0, [Value.slice x3a x3n x3c], H)) :=
  lp_of2 [.e, .b false] (ai (decide_eq_false h1) (Eq.refl (Sum.inr (Ex.exit 0, [Value.slice x3a x3n x3c], H) : LS ⊕ LO))) (by kernel_rfl)
theorem f23_L1_0 {x3a : Option Addr} {x3n x3c : Nat} {x4 : Int} {x13a : Option Addr} {x13n x13c : Nat} {x14 x15 : Int} {x20a : Option Addr} {x20n x20c : Nat} {x21 x22 : Int} {H0 : AHeap} {prot : Nat} {H : AHeap} {x24p x24o x24l : Nat} {x25 : Int} {x30p x30o x30l : Nat} {x31a : Option Addr} {x31n x31c : Nat} {x34a : Option Addr} {x34n x34c : Nat} {H2 : AHeap} {x35p x35o x35l : Nat} {H3 : AHeap} (h1 : x22 < x21) (h2 : aindexAddr cfg.P 24 (Value.slice x20a x20n x20c) (Value.int .i64 x22) = some (Value.pointer (some ⟨x24p, x24o, some x24l⟩))) (h3 : getCells H x24p x24l x24o 1 = some [Value.int .i64 x25]) (h4 : aindexAddr cfg.P 22 (Value.slice x3a x3n x3c) (Value.int .i64 x25) = some (Value.pointer (some ⟨x30p, x30o, some x30l⟩))) (h5 : getCells H x30p x30l x30o 1 = some [Value.slice x31a x31n x31c]) (h6 : aappend cfg.P (List.length H0) true 24 24 (Value.slice x31a x31n x31c) (Value.slice (some ⟨List.length H, 0, some (1 * 1)⟩) 1 1) (H ++ [wo [Value.int .i64 x4] 3]) = some (Value.slice x34a x34n x34c, H2)) (h7 : aindexAddr cfg.P 22 (Value.slice x3a x3n x3c) (Value.int .i64 x25) = some (Value.pointer (some ⟨x35p, x35o, some x35l⟩))) (h8 : [Value.slice x34a x34n x34c].length = 1) (h9 : setCells H2 (List.length H0) x35p x35l x35o [Value.slice x34a x34n x34c] = some H3) (h10 : Fit .i64 (x22 + 1)) : lpOf cfg a23 1 prot H0 ([.slice x3a x3n x3c, .int .i64 x4, .slice x13a x13n x13c, .int .i64 x14, .int .i64 x15, .slice x20a x20n x20c, .int .i64 x21, .int .i64 x22], H) = some (Sum.inl ([Value.slice x3a x3n x3c, Value.int .i64 x4, Value.slice x13a x13n x13c, Value.int .i64 x14, Value.int .i64 x15, Value.slice x20a x20n x20c, Value.int .i64 x21, Value.int .i64 (x22 + 1)], H3)) :=
  lp_of2 [.e, .b true, .v (.pointer (some ⟨x24p, x24o, some x24l⟩)), .v (.int .i64 x25), .v (.pointer (some ⟨x30p, x30o, some x30l⟩)), .v (.slice x31a x31n x31c), .e, .r (.slice x34a x34n x34c) H2, .v (.pointer (some ⟨x35p, x35o, some x35l⟩)), .h H3, .e] (ai (decide_eq_true h1) (ai h2 (ai h3 (ai h4 (ai h5 (ai h6 (ai h7 (ai h8 (ai h9 (ai h10 (Eq.refl (Sum.inl ([Value.slice x3a x3n x3c, Value.int .i64 x4, Value.slice x13a x13n x13c, Value.int .i64 x14, Value.int .i64 x15, Value.slice x20a x20n x20c, Value.int .i64 x21, Value.int .i64 (x22 + 1)], H3) : LS ⊕ LO)))))))))))) (by kernel_rfl)
theorem f23_L1_1 {x3a : Option Addr} {x3n x3c : Nat} {x4 : Int} {x13a : Option Addr} {x13n x13c : Nat} {x14 x15 : Int} {x20a : Option Addr} {x20n x20c : Nat} {x21 x22 : Int} {H0 : AHeap} {prot : Nat} {H : AHeap} (h1 : ¬(x22 < x21)) : lpOf cfg a23 1 prot H0 ([.slice x3a x3n x3c, .int .i64 x4, .slice x13a x13n x13c, .int .i64 x14, .int .i64 x15, .slice x20a x20n x20c, .int .i64 x21, .int .i64 x22], H) = some (Sum.inr (Ex.exit 2, [Value.slice x3a x3n x3c, Value.slice x13a x13n x13c, Value.int .i64 x14, Value.int .i64 x15], H)) :=
  lp_of2 [.e, .b false] (ai (decide_eq_false h1) (Eq.refl (Sum.inr (Ex.exit 2, [Value.slice x3a x3n x3c, Value.slice x13a x13n x13c, Value.int .i64 x14, Value.int .i64 x15], H) : LS ⊕ LO))) (by kernel_rfl)
theorem f23_L2_0 {x3a : Option Addr} {x3n x3c : Nat} {x38a : Option Addr} {x38n x38c : Nat} {x39 x40 : Int} {H0 : AHeap} {prot : Nat} {H : AHeap} {x42p x42o x42l : Nat} {x43a : Option Addr} {x43n x43c : Nat} {H2 : AHeap} (h1 : x40 < x39) (h2 : aindexAddr cfg.P 22 (Value.slice x38a x38n x38c) (Value.int .i64 x40) = some (Value.pointer (some ⟨x42p, x42o, some x42l⟩))) (h3 : getCells H x42p x42l x42o 1 = some [Value.slice x43a x43n x43c]) (h4 : callInf cfg 37 [Value.slice x43a x43n x43c] (List.length H0) H = some (Value.tuple { toList := [] }, H2)) (h5 : Fit .i64 (x40 + 1)) : lpOf cfg a23 2 prot H0 ([.slice x3a x3n x3c, .slice x38a x38n x38c, .int .i64 x39, .int .i64 x40], H) = some (Sum.inl ([Value.slice x3a x3n x3c, Value.slice x38a x38n x38c, Value.int .i64 x39, Value.int .i64 (x40 + 1)], H2)) :=
  lp_of2 [.e, .b true, .v (.pointer (some ⟨x42p, x42o, some x42l⟩)), .v (.slice x43a x43n x43c), .r (.tuple #[]) H2, .e] (ai (decide_eq_true h1) (ai h2 (ai h3 (ai h4 (ai h5 (Eq.refl (Sum.inl ([Value.slice x3a x3n x3c, Value.slice x38a x38n x38c, Value.int .i64 x39, Value.int .i64 (x40 + 1)], H2) : LS ⊕ LO))))))) (by kernel_rfl)
theorem f23_L2_1 {x3a : Option Addr} {x3n x3c : Nat} {x38a : Option Addr} {x38n x38c : Nat} {x39 x40 : Int} {H0 : AHeap} {prot : Nat} {H : AHeap} (h1 : ¬(x40 < x39)) : lpOf cfg a23 2 prot H0 ([.slice x3a x3n x3c, .slice x38a x38n x38c, .int .i64 x39, .int .i64 x40], H) = some (Sum.inr (Ex.exit 4, [Value.slice x3a x3n x3c], H)) :=
  lp_of2 [.e, .b false] (ai (decide_eq_false h1) (Eq.refl (Sum.inr (Ex.exit 4, [Value.slice x3a x3n x3c], H) : LS ⊕ LO))) (by kernel_rfl)
end Go.Proofs.YtkemihfaohkoeaaDoor.Am11d
set_option linter.unusedVariables false
open Go Go.Proofs.YtkemihfaohkoeaaDoor.Am
namespace Go.Proofs.YtkemihfaohkoeaaDoor.Am11d
end Go.Proofs.YtkemihfaohkoeaaDoor.Am11d
namespace Go.Proofs.YtkemihfaohkoeaaDoor.Am11d
open Go Go.Proofs.YtkemihfaohkoeaaDoor.Am
/-! All edges turned round. -/
def addE (T : Nat → List Nat) (u v : Nat) : Nat → List Nat := fun j => if j = u then T u ++ [v] else T j
def goRow (v : Nat) : List Nat → (Nat → List Nat) → Nat → List Nat
  | [], T => T
  | u :: l, T => goRow v l (addE T u v)
def goAll (G : List (List Int)) : Nat → Nat → (Nat → List Nat) → Nat → List Nat
  | 0, _, T => T
  | d + 1, v, T => goAll G d (v + 1) (goRow v (sc G v) T)
def turnT (G : List (List Int)) : Nat → List Nat := goAll G G.length 0 (fun _ => [])
theorem goRow_mem {v : Nat} {w j : Nat} : ∀ (l : List Nat) (T : Nat → List Nat), w ∈ goRow v l T j ↔ w ∈ T j ∨ (w = v ∧ j ∈ l)
  | [], T => by simp [goRow]
  | u :: l, T => by
    rw [goRow, goRow_mem l]
    unfold addE
    by_cases h : j = u
    · rw [if_pos h, List.mem_append, List.mem_singleton, h]
      constructor
      · rintro ((h1 | h1) | ⟨h1, h2⟩)
        · exact .inl h1
        · exact .inr ⟨h1, by simp⟩
        · exact .inr ⟨h1, by simp [h2]⟩
      · rintro (h1 | ⟨h1, _⟩)
        · exact .inl (.inl h1)
        · exact .inl (.inr h1)
    · rw [if_neg h]
      constructor
      · rintro (h1 | ⟨h1, h2⟩)
        · exact .inl h1
        · exact .inr ⟨h1, by simp [h2]⟩
      · rintro (h1 | ⟨h1, h2⟩)
        · exact .inl h1
        · rcases List.mem_cons.1 h2 with h2 | h2
          · exact absurd h2 h
          · exact .inr ⟨h1, h2⟩
theorem goAll_mem {G : List (List Int)} {w j : Nat} : ∀ (d v : Nat) (T : Nat → List Nat), w ∈ goAll G d v T j ↔ w ∈ T j ∨ (v ≤ w ∧ w < v + d ∧ j ∈ sc G w)
  | 0, v, T => by
    simp only [goAll, Nat.add_zero]
    constructor
    · exact .inl
    · rintro (h | ⟨h1, h2, _⟩)
      · exact h
      · omega
  | d + 1, v, T => by
    rw [goAll, goAll_mem d, goRow_mem]
    constructor
    · rintro ((h | ⟨rfl, h⟩) | ⟨h1, h2, h3⟩)
      · exact .inl h
      · exact .inr ⟨Nat.le_refl _, by omega, h⟩
      · exact .inr ⟨by omega, by omega, h3⟩
    · rintro (h | ⟨h1, h2, h3⟩)
      · exact .inl (.inl h)
      · by_cases e : w = v
        · subst e; exact .inl (.inr ⟨rfl, h3⟩)
        · exact .inr ⟨by omega, by omega, h3⟩
theorem turn_mem {G : List (List Int)} {w j : Nat} : w ∈ turnT G j ↔ w < G.length ∧ j ∈ sc G w := by
  unfold turnT
  rw [goAll_mem]
  simp
/-- They rise. -/
def RisL (T : Nat → List Nat) (v : Nat) : Prop := ∀ j, (T j).Pairwise (· ≤ ·) ∧ ∀ x ∈ T j, x ≤ v
theorem RisL.add {T : Nat → List Nat} {u v : Nat} (h : RisL T v) : RisL (addE T u v) v := fun j => by
  unfold addE
  by_cases e : j = u
  · rw [if_pos e]
    refine ⟨List.pairwise_append.2 ⟨(h u).1, List.pairwise_singleton _ _, fun a ha b hb => ?_⟩, fun x hx => ?_⟩
    · rw [List.mem_singleton.1 hb]; exact (h u).2 a ha
    · rcases List.mem_append.1 hx with hx | hx
      · exact (h u).2 x hx
      · rw [List.mem_singleton.1 hx]; exact Nat.le_refl _
  · rw [if_neg e]; exact h j
theorem RisL.row {v : Nat} : ∀ (l : List Nat) {T : Nat → List Nat}, RisL T v → RisL (goRow v l T) v
  | [], _, h => h
  | _ :: l, _, h => RisL.row l h.add
theorem RisL.all {G : List (List Int)} : ∀ (d v : Nat) {T : Nat → List Nat}, RisL T v → RisL (goAll G d v T) (v + d)
  | 0, v, T, h => h
  | d + 1, v, T, h => by
    rw [goAll, show v + (d + 1) = v + 1 + d by omega]
    refine RisL.all d (v + 1) fun j => ?_
    have := RisL.row (sc G v) h j
    exact ⟨this.1, fun x hx => by have := this.2 x hx; omega⟩
theorem ris_of {l : List Nat} (h : l.Pairwise (· ≤ ·)) : Ris l := fun i j hij hj => by
  rw [List.getD_eq_getElem?_getD, List.getD_eq_getElem?_getD, List.getElem?_eq_getElem hj, List.getElem?_eq_getElem (show i < l.length by omega)]
  simp only [Option.getD_some]
  by_cases e : i = j
  · subst e; exact Nat.le_refl _
  · exact List.pairwise_iff_getElem.1 h i j _ hj (by omega)
theorem turn_ris (G : List (List Int)) (j : Nat) : Ris (turnT G j) := ris_of (RisL.all (G := G) G.length 0 (T := fun _ => []) (fun j => ⟨List.Pairwise.nil, fun x hx => by cases hx⟩) j).1

/-! ### The machine -/
structure Out (B : Nat) (H : AHeap) (x3 : Value) (N : Nat) (r : Nat → Value) (o : Nat → Option Nat) (o3 : Nat) (T : Nat → List Nat) : Prop where
  x3 : Own H 24 1 x3 (some o3) N ((List.range N).map r)
  rx : ∀ j, j < N → Own H 3 1 (r j) (o j) (T j).length (il (nl (T j)))
  b3 : B ≤ o3
  bo : ∀ j, j < N → ∀ a, o j = some a → B ≤ a
  dis : Dis N o
theorem range_at {N : Nat} (r : Nat → Value) {u : Nat} (h : u < N) : ((List.range N).map r)[u]? = some (r u) := by rw [List.getElem?_map, List.getElem?_range h]; rfl
theorem own_lt {H : AHeap} {e s : Nat} {x : Value} {id n : Nat} {cs : List Value} (h : Own H e s x (some id) n cs) : id < H.length := by
  obtain ⟨_, _, _, wr, _, h2⟩ := h
  exact (List.getElem?_eq_some_iff.1 h2).1
theorem Out.app {B : Nat} {H : AHeap} {x3 : Value} {N : Nat} {r : Nat → Value} {o : Nat → Option Nat} {o3 : Nat} {T : Nat → List Nat} (h : Out B H x3 N r o o3 T) {u : Nat} (hu : u < N) (v : Nat) {room : Bool} (hn : (T u).length ≤ 10000000) (hB : B ≤ H.length) :
    ∃ a' c' H2 H3 id3 L3, aindexAddr cfg.P 22 x3 (.int .i64 (u : Nat)) = some (.pointer (some ⟨id3, u, some L3⟩)) ∧ getCells H id3 L3 u 1 = some [r u] ∧
      aappend cfg.P B room 24 24 (r u) (.slice (some ⟨H.length, 0, some (1 * 1)⟩) 1 1) (H ++ [wo [.int .i64 (v : Int)] 3]) = some (.slice a' ((T u).length + 1) c', H2) ∧
      setCells H2 B id3 L3 u [.slice a' ((T u).length + 1) c'] = some H3 ∧ (∃ r' o', Out B H3 x3 N r' o' o3 (addE T u v)) ∧ (∀ q, q < B → H3[q]? = H[q]?) ∧ B ≤ H3.length := by
  have hru := h.rx u hu
  obtain ⟨a', c', ou, H2, q1, q2, q3, q4, q5, q6⟩ := own_app T34 hru (ecs := [.int .i64 (v : Int)]) rfl rfl (prot := B) (room := room) (fun id e => h.bo u hu id e) hB (by omega) (L := 1 * 1) rfl (el := [Value.int .i64 (v : Int)].length) rfl
  obtain ⟨id, e3, p1, p2⟩ := own_at T22 h.x3 (range_at r hu)
  cases e3
  have hx2 : Own H2 24 1 x3 (some o3) N ((List.range N).map r) := by
    cases ho : o u with
    | none => rw [ho] at q3; exact h.x3.stay q3 (fun _ _ e => by cases e)
    | some a =>
      rw [ho] at q3 hru
      obtain ⟨_, _, _, wr, _, hH⟩ := hru
      exact h.x3.stayE hH (by decide) q3
  obtain ⟨id, H3, e3, s1, s2, s3, s4, s5⟩ := own_setS T22 hx2 (i := u) (j := 0) hu (vs := [.slice a' ((T u).length + 1) c']) (by simp) rfl (prot := B) (fun id e => by cases e; exact h.b3)
  cases e3
  obtain ⟨_, _, _, wr3, _, hH3⟩ := hx2
  have hput : putList ((List.range N).map r) (u * 1 + 0) [.slice a' ((T u).length + 1) c'] = (List.range N).map (fun j => if j = u then .slice a' ((T u).length + 1) c' else r j) := by
    rw [Nat.mul_one, Nat.add_zero, put_one _ (by simp; exact hu)]
    apply List.ext_getElem?
    intro j
    by_cases e : j = u
    · subst e
      rw [List.getElem?_set_self (by simp; exact hu), range_at _ hu, if_pos rfl]
    · rw [List.getElem?_set_ne (fun h => e h.symm), List.getElem?_map, List.getElem?_map]
      by_cases hj : j < N
      · rw [List.getElem?_range hj]; simp [e]
      · rw [List.getElem?_eq_none (by simp; omega)]; rfl
  rw [hput] at s3
  have hil : il (nl (T u)) ++ [Value.int .i64 (v : Int)] = il (nl (T u ++ [v])) := by simp [il, nl]
  rw [hil] at q2
  rw [Nat.mul_one, Nat.add_zero] at s2
  refine ⟨a', c', H2, H3, o3, _, p1, p2, q1, s2, ⟨_, fun j => if j = u then some ou else o j, s3, fun j hj => ?_, h.b3, fun j hj a ha => ?_, ?_⟩, fun q hq => ?_, ?_⟩
  · by_cases e : j = u
    · subst e
      rw [if_pos rfl, if_pos rfl]
      unfold addE
      rw [if_pos rfl, List.length_append]
      exact q2.stayE hH3 (by decide) s4
    · rw [if_neg e, if_neg e]
      unfold addE
      rw [if_neg e]
      exact ((h.rx j hj).stay q3 (fun id e1 e2 => h.dis j u hj hu e id e1 e2)).stayE hH3 (by decide) s4
  · by_cases e : j = u
    · subst e
      rw [if_pos rfl] at ha
      cases ha
      exact q4
    · rw [if_neg e] at ha
      exact h.bo j hj a ha
  · have hnew : ∀ j, j < N → j ≠ u → o j ≠ some ou := fun j hj hne e => by
      cases ho : o u with
      | none =>
        have h1 := q5 ho
        have h2 := h.rx j hj
        rw [e] at h2
        have := own_lt h2
        omega
      | some a =>
        have h1 := q6 a ho
        exact h.dis j u hj hu hne ou e (by rw [ho, h1])
    intro i j hi hj hne a ha hb
    simp only at ha hb
    by_cases e1 : i = u
    · have e2 : j ≠ u := fun e2 => hne (by rw [e1, e2])
      rw [if_pos e1] at ha
      rw [if_neg e2] at hb
      cases ha
      exact hnew j hj e2 hb
    · rw [if_neg e1] at ha
      by_cases e2 : j = u
      · rw [if_pos e2] at hb
        cases hb
        exact hnew i hi e1 ha
      · rw [if_neg e2] at hb
        exact h.dis i j hi hj hne a ha hb
  · have hb3 := h.b3
    rw [s4.2 q (by have := q3.1; omega) (fun e => by have := Option.some.inj e; omega)]
    exact q3.2 q (by omega) (fun e => by have := h.bo u hu q e; omega)
  · have := q3.1; have := s4.1; omega
end Go.Proofs.YtkemihfaohkoeaaDoor.Am11d
namespace Go.Proofs.YtkemihfaohkoeaaDoor.Am11d
open Go Go.Proofs.YtkemihfaohkoeaaDoor.Am
theorem keep_stay {B : AHeap} {H : AHeap} (h1 : ∀ q, q < B.length → H[q]? = B[q]?) (h2 : B.length ≤ H.length) : Stay none B H := ⟨h2, fun q hq _ => h1 q hq⟩
theorem addE_len {T : Nat → List Nat} {u v j : Nat} : (addE T u v j).length ≤ (T j).length + 1 := by
  unfold addE
  split
  · rename_i h; subst h; simp
  · omega
theorem loop33i {G : List (List Int)} (hG : Good G) {H0 : AHeap} {x13 x20 : Value} (hx13 : ∃ a c, x13 = .slice a G.length c) {v : Nat} (hv : v < G.length) (h20 : Rd H0 3 1 x20 G[v].length (il G[v])) {x3 : Value} {o3 prot rest : Nat} : ∀ (d i : Nat) (T : Nat → List Nat) (r : Nat → Value) (o : Nat → Option Nat) (H : AHeap), i + d = G[v].length → Out H0.length H x3 G.length r o o3 T → Stay none H0 H → (∀ j, (T j).length + (d + rest) ≤ 1048576) →
    ∃ r' o' H', lpInf (lpOf cfg a23 1 prot H0) ([x3, .int .i64 v, x13, .int .i64 G.length, .int .i64 v, x20, .int .i64 G[v].length, .int .i64 i], H) = some (.exit 2, [x3, x13, .int .i64 G.length, .int .i64 v], H') ∧ Out H0.length H' x3 G.length r' o' o3 (goRow v ((sc G v).drop i) T) ∧ Stay none H0 H' ∧ ∀ j, (goRow v ((sc G v).drop i) T j).length + rest ≤ 1048576
  | 0, i, T, r, o, H, hi, hO, hst, hb => by
    have hl := sc_len hv
    rw [List.drop_of_length_le (by omega)]
    refine ⟨r, o, H, ?_, hO, hst, fun j => by have := hb j; simp only [goRow]; omega⟩
    obtain ⟨_, _, rfl⟩ := hx13
    obtain ⟨_, _, rfl⟩ := h20.len
    obtain ⟨_, _, rfl⟩ := hO.x3.len
    exact lp_last (f23_L1_1 (by omega))
  | d + 1, i, T, r, o, H, hi, hO, hst, hb => by
    have hil : i < G[v].length := by omega
    have hl := sc_len hv
    have hsh := hG.2.1 _ (List.getElem_mem hv)
    obtain ⟨u, hue, hul, hsc⟩ := sc_get hG hv hil
    obtain ⟨id, L, a1, a2⟩ := rd_at T34 (h20.stay hst) (il_get hil)
    rw [hue] at a2
    have hbu := hb u
    obtain ⟨a', c', H2, H3, id3, L3, p1, p2, p3, p4, ⟨r', o', p5⟩, p6, p7⟩ := hO.app hul v (room := true) (by omega) hst.1
    have hst3 : Stay none H0 H3 := keep_stay (fun q hq => (p6 q hq).trans (hst.2 q hq (by simp))) p7
    obtain ⟨r2, o2, H', z1, z2, z3, z4⟩ := loop33i hG hx13 hv h20 (prot := prot) (rest := rest) d (i + 1) (addE T u v) r' o' H3 (by omega) p5 hst3 (fun j => by have := hb j; have := addE_len (T := T) (u := u) (v := v) (j := j); omega)
    have hdrop : (sc G v).drop i = u :: (sc G v).drop (i + 1) := by
      rw [List.drop_eq_getElem_cons (by omega)]
      rw [List.getElem?_eq_getElem (by omega)] at hsc
      rw [Option.some.inj hsc]
    rw [hdrop]
    refine ⟨r2, o2, H', ?_, z2, z3, z4⟩
    have hrl := (hO.rx u hul).len
    obtain ⟨_, _, rfl⟩ := hx13
    obtain ⟨_, _, rfl⟩ := h20.len
    obtain ⟨_, _, rfl⟩ := hO.x3.len
    obtain ⟨_, _, hre⟩ := hrl
    rw [hre] at p2 p3
    exact lp_next (f23_L1_0 (by omega) a1 a2 p1 p2 p3 p1 rfl p4 (fit64 (by omega) (by omega))) z1
def lens (l : List (List Int)) : Nat := (l.map List.length).sum
theorem loop33o {G : List (List Int)} (hG : Good G) {H0 : AHeap} {x13 : Value} (hg : Gr H0 x13 G) {x3 : Value} {o3 prot : Nat} : ∀ (d v : Nat) (T : Nat → List Nat) (r : Nat → Value) (o : Nat → Option Nat) (H : AHeap), v + d = G.length → Out H0.length H x3 G.length r o o3 T → Stay none H0 H → (∀ j, (T j).length + lens (G.drop v) ≤ 1048576) →
    ∃ r' o' H', lpInf (lpOf cfg a23 0 prot H0) ([x3, x13, .int .i64 G.length, .int .i64 v], H) = some (.exit 0, [x3], H') ∧ Out H0.length H' x3 G.length r' o' o3 (goAll G d v T) ∧ Stay none H0 H' ∧ ∀ j, (goAll G d v T j).length ≤ 1048576
  | 0, v, T, r, o, H, hv, hO, hst, hb => by
    refine ⟨r, o, H, ?_, hO, hst, fun j => by have := hb j; simp only [goAll]; omega⟩
    obtain ⟨_, _, rfl⟩ := hg.len
    obtain ⟨_, _, rfl⟩ := hO.x3.len
    exact lp_last (f23_L0_1 (by omega))
  | d + 1, v, T, r, o, H, hv, hO, hst, hb => by
    have hvl : v < G.length := by omega
    have h5 := hG.1
    obtain ⟨id, L, x20, a1, a2, a3⟩ := hg.row hvl
    obtain ⟨id', L', x20', a1', a2', a3'⟩ := (hg.stay hst).row hvl
    have hsplit : lens (G.drop v) = G[v].length + lens (G.drop (v + 1)) := by
      unfold lens
      rw [List.drop_eq_getElem_cons hvl, List.map_cons, List.sum_cons]
    -- the row, read in the base and now
    obtain ⟨cs, c1, c2⟩ := hg
    obtain ⟨x, c3, c4⟩ := c2 v G[v] (List.getElem?_eq_getElem hvl)
    obtain ⟨i1, M1, d1, d2⟩ := rd_at T22 (c1.stay hst) c3
    obtain ⟨r1, o1, H1, y1, y2, y3, y4⟩ := loop33i hG c1.len hvl c4 (x3 := x3) (o3 := o3) (prot := prot) (rest := lens (G.drop (v + 1))) G[v].length 0 T r o H (by omega) hO hst (fun j => by have := hb j; omega)
    rw [List.drop_zero] at y2 y4
    obtain ⟨r2, o2, H', z1, z2, z3, z4⟩ := loop33o hG ⟨cs, c1, c2⟩ (x3 := x3) (o3 := o3) (prot := prot) d (v + 1) _ r1 o1 H1 (by omega) y2 y3 y4
    refine ⟨r2, o2, H', ?_, z2, z3, z4⟩
    obtain ⟨_, _, rfl⟩ := c1.len
    obtain ⟨_, _, rfl⟩ := hO.x3.len
    obtain ⟨_, _, rfl⟩ := c4.len
    exact lp_next (f23_L0_0 (by omega) d1 d2 y1 (fit64 (by omega) (by omega))) z1
theorem loop33s {H0 H : AHeap} {x3 : Value} {N : Nat} (h5 : N ≤ 512) {r : Nat → Value} {o : Nat → Option Nat} {o3 prot B : Nat} {T : Nat → List Nat} (hO : Out B H x3 N r o o3 T) (hs : ∀ j, Ris (T j)) (hb : ∀ j, (T j).length ≤ 1048576) : ∀ (d i : Nat), i + d = N →
    lpInf (lpOf cfg a23 2 prot H0) ([x3, x3, .int .i64 N, .int .i64 i], H) = some (.exit 4, [x3], H)
  | 0, i, hi => by
    obtain ⟨_, _, rfl⟩ := hO.x3.len
    exact lp_last (f23_L2_1 (by omega))
  | d + 1, i, hi => by
    have hil : i < N := by omega
    obtain ⟨id, e, a1, a2⟩ := own_at T22 hO.x3 (range_at r hil)
    have h45 := c45 (hs i) (by have := hb i; omega) H0.length (hO.rx i hil).rd
    have ih := loop33s h5 (H0 := H0) (prot := prot) hO hs hb d (i + 1) (by omega)
    have hrl := (hO.rx i hil).len
    obtain ⟨_, _, rfl⟩ := hO.x3.len
    obtain ⟨_, _, hre⟩ := hrl
    rw [hre] at a2 h45
    exact lp_next (f23_L2_0 (by omega) a1 a2 h45 (fit64 (by omega) (by omega))) ih
/-- Lists of lists, each of one's own. -/
structure Mine (B : Nat) (H : AHeap) (x : Value) (N : Nat) (T : Nat → List Nat) : Prop where
  ex : (∃ r o o3, Out B H x N r o o3 T) ∨ (N = 0 ∧ ∃ id, x = .slice (some ⟨id, 0, some 0⟩) 0 0 ∧ B ≤ id ∧ H[id]? = some (.cells [] 24 0 .row))
theorem Mine.stay {B : Nat} {H H' : AHeap} {x : Value} {N : Nat} {T : Nat → List Nat} (h : Mine B H x N T) (s : Stay none H H') : Mine B H' x N T := by
  rcases h.ex with ⟨r, o, o3, h⟩ | ⟨h0, id, h1, h2, h3⟩
  · exact ⟨.inl ⟨r, o, o3, h.x3.stay s (fun _ _ e => by cases e), fun j hj => (h.rx j hj).stay s (fun _ _ e => by cases e), h.b3, h.bo, h.dis⟩⟩
  · exact ⟨.inr ⟨h0, id, h1, h2, by rw [s.2 id (List.getElem?_eq_some_iff.1 h3).1 (by simp)]; exact h3⟩⟩
theorem Mine.rd {B : Nat} {H : AHeap} {x : Value} {N : Nat} {T : Nat → List Nat} (h : Mine B H x N T) : ∃ cs, Rd H 24 1 x N cs ∧ ∀ j, j < N → ∃ r, cs[j]? = some r ∧ Rd H 3 1 r (T j).length (il (nl (T j))) := by
  rcases h.ex with ⟨r, o, o3, h⟩ | ⟨h0, id, h1, h2, h3⟩
  · exact ⟨_, h.x3.rd, fun j hj => ⟨r j, range_at r hj, (h.rx j hj).rd⟩⟩
  · subst h0; subst h1
    exact ⟨[], ⟨rfl, .inr ⟨id, 0, 0, .row, 0, [], rfl, Nat.le_refl _, Nat.le_refl _, Nat.le_refl _, h3, rfl⟩⟩, fun j hj => by omega⟩
theorem Mine.weak {B C : Nat} {H : AHeap} {x : Value} {N : Nat} {T : Nat → List Nat} (h : Mine B H x N T) (hc : C ≤ B) : Mine C H x N T := by
  rcases h.ex with ⟨r, o, o3, h⟩ | ⟨h0, id, h1, h2, h3⟩
  · exact ⟨.inl ⟨r, o, o3, h.x3, h.rx, Nat.le_trans hc h.b3, fun j hj a ha => Nat.le_trans hc (h.bo j hj a ha), h.dis⟩⟩
  · exact ⟨.inr ⟨h0, id, h1, Nat.le_trans hc h2, h3⟩⟩
theorem out_start {N : Nat} (hN : 0 < N) (H : AHeap) : Out H.length (H ++ [.cells (repCells [.slice none 0 0] N) 24 (repCells [.slice none 0 0] N).length .row]) (.slice (some ⟨H.length, 0, some (N * 1)⟩) N N) N (fun _ => .slice none 0 0) (fun _ => none) H.length (fun _ => []) := by
  have h := own_mk (e := 24) hN H (.slice none 0 0)
  refine ⟨?_, fun j hj => own_nil, Nat.le_refl _, fun j hj a ha => (by cases ha), fun i j hi hj hne a ha => (by cases ha)⟩
  have e : List.replicate N (Value.slice none 0 0) = (List.range N).map (fun _ => Value.slice none 0 0) := by
    rw [List.map_const', List.length_range]
  rw [← e]
  exact h
/-- Lists that are not all nil are not plain; if all are nil, they are copied. -/
theorem gc_mine {H H1 : AHeap} {x : Value} {N : Nat} {T : Nat → List Nat} (hm : Mine H.length H1 x N T) (hst : Stay none H H1) {ps : List Value} (hps : ps.all plain1 = true) :
    ∃ x' H', gc H (x :: ps) H1 = (tupled (x' :: ps), H') ∧ Mine H.length H' x' N T ∧ Stay none H H' := by
  rcases hm.ex with ⟨r, o, o3, h⟩ | ⟨h0, id, h1, h2, h3⟩
  · by_cases hp : ((List.range N).map r).all plain0 = true
    · obtain ⟨x', o', H', g1, g2, g3, g4, g5⟩ := gc_row (H := H) h.x3 (fun id e => by cases e; exact h.b3) hp hps
      have hN : 0 < N := h.x3.2.1
      cases ho' : o' with
      | none => rw [ho'] at g2; have := g2.2.1; omega
      | some o4 =>
        rw [ho'] at g2 g4
        refine ⟨x', H', g1, ⟨.inl ⟨r, o, o4, g2, fun j hj => ?_, g4 o4 rfl, h.bo, h.dis⟩⟩, g3⟩
        have hj2 := h.rx j hj
        have hpl := List.all_eq_true.1 hp (r j) (List.mem_map.2 ⟨j, List.mem_range.2 hj, rfl⟩)
        cases hoj : o j with
        | none => rw [hoj] at hj2; exact hj2
        | some a =>
          rw [hoj] at hj2
          rw [hj2.2.2.1] at hpl
          cases hpl
    · refine ⟨x, H1, ?_, hm, hst⟩
      have hp : ((List.range N).map r).all plain0 = false := by simpa using hp
      obtain ⟨hl, hn, hx, wr, hwr, hH⟩ := h.x3
      have hk : keepAll H.length H1 (x :: ps) [] = none := by
        rw [hx]
        simp only [keepAll, keep1]
        split
        · rfl
        · rw [hH]
          simp [hp]
      unfold gc
      rw [hk]
      have hnd : noDup (sliceIds (x :: ps)) = true := by
        rw [hx]
        simp [sliceIds, sliceIds_plain ps hps, noDup]
      rw [if_pos hnd]
  · subst h0; subst h1
    refine ⟨.slice (some ⟨H.length, 0, some 0⟩) 0 0, H ++ [.cells [] 24 0 .row], ?_, ⟨.inr ⟨rfl, H.length, rfl, Nat.le_refl _, append_get.1⟩⟩, Stay.app none H _⟩
    unfold gc
    simp only [gcHeap]
    simp only [sliceIds, sliceIds_plain ps hps, noDup, List.contains_nil, Bool.not_false, Bool.and_self, if_true, keepAll, keep1]
    rw [if_neg (by omega), h3]
    simp only
    rw [if_pos ⟨rfl, by simp⟩, Option.bind_some, keepAll_plain ps _ hps]
    simp

theorem c33 {G : List (List Int)} (hG : Good G) (hE : lens G ≤ 1048576) {vG : Value} (prot : Nat) {H : AHeap} (hg : Gr H vG G) : ∃ x' H', callInf cfg 23 [vG] prot H = some (x', H') ∧ Mine H.length H' x' G.length (turnT G) ∧ Stay none H H' := by
  have h5 := hG.1
  obtain ⟨HA, hHA⟩ : ∃ HA, HA = H ++ [AObj.cells (repCells [.slice none 0 0] G.length) 24 (repCells [.slice none 0 0] G.length).length .row] := ⟨_, rfl⟩
  have sA : Stay none H HA := by rw [hHA]; exact Stay.app none H _
  have key : ∃ x1 H1 H2, lpInf (lpOf cfg a23 0 prot H) ([.slice (some ⟨H.length, 0, some (G.length * 1)⟩) G.length G.length, vG, .int .i64 G.length, .int .i64 0], HA) = some (.exit 0, [x1], H1) ∧ lpInf (lpOf cfg a23 2 prot H) ([x1, x1, .int .i64 G.length, .int .i64 0], H1) = some (.exit 4, [x1], H2) ∧ Mine H.length H2 x1 G.length (turnT G) ∧ Stay none H H2 := by
    by_cases h0 : 0 < G.length
    · have hO := out_start h0 H
      rw [← hHA] at hO
      obtain ⟨r', o', H1, z1, z2, z3, z4⟩ := loop33o hG hg (prot := prot) G.length 0 _ _ _ HA (by omega) hO sA (fun j => by simpa [lens] using hE)
      have hs := loop33s h5 (H0 := H) (prot := prot) z2 (turn_ris G) z4 G.length 0 (by omega)
      exact ⟨_, H1, H1, z1, hs, ⟨.inl ⟨r', o', _, z2⟩⟩, z3⟩
    · have hn : G = [] := List.eq_nil_of_length_eq_zero (by omega)
      subst hn
      obtain ⟨_, _, rfl⟩ := hg.len
      refine ⟨_, HA, HA, lp_last (f23_L0_1 (by decide)), lp_last (f23_L2_1 (by decide)), ⟨.inr ⟨rfl, H.length, rfl, Nat.le_refl _, ?_⟩⟩, sA⟩
      rw [hHA]
      exact append_get.1
  obtain ⟨x1, H1, H2, y1, y2, y3, y4⟩ := key
  obtain ⟨x', H', g1, g2, g3⟩ := gc_mine y3 y4 (ps := []) rfl
  refine ⟨x', H', ?_, g2, g3⟩
  obtain ⟨_, hx1, _⟩ := y3.rd
  obtain ⟨_, _, hxe⟩ := hx1.len
  obtain ⟨_, _, rfl⟩ := hg.len
  subst hxe
  subst hHA
  exact f23_F_0 _ _ (by omega) rfl (by omega) (by omega) y1 y2 (by rw [pfin_eq, if_neg (by simp [a23])]; exact g1)
/-- No list is longer than there are edges. -/
theorem goRow_len {v : Nat} : ∀ (l : List Nat) (T : Nat → List Nat) (j : Nat), (goRow v l T j).length ≤ (T j).length + l.length
  | [], T, j => by simp [goRow]
  | u :: l, T, j => by
    have h1 := goRow_len (v := v) l (addE T u v) j
    have h2 := addE_len (T := T) (u := u) (v := v) (j := j)
    rw [goRow, List.length_cons]
    omega
theorem goAll_len {G : List (List Int)} : ∀ (d v : Nat) (T : Nat → List Nat) (j : Nat), v + d = G.length → (goAll G d v T j).length ≤ (T j).length + lens (G.drop v)
  | 0, v, T, j, _ => by simp [goAll]
  | d + 1, v, T, j, hv => by
    have hvl : v < G.length := by omega
    have h1 := goAll_len (G := G) d (v + 1) (goRow v (sc G v) T) j (by omega)
    have h2 := goRow_len (v := v) (sc G v) T j
    have h3 := sc_len hvl
    have hsplit : lens (G.drop v) = G[v].length + lens (G.drop (v + 1)) := by
      unfold lens
      rw [List.drop_eq_getElem_cons hvl, List.map_cons, List.sum_cons]
    rw [goAll]
    omega
theorem turn_len {G : List (List Int)} (j : Nat) : (turnT G j).length ≤ lens G := by
  have := goAll_len (G := G) G.length 0 (fun _ => []) j (by omega)
  simpa [turnT] using this
end Go.Proofs.YtkemihfaohkoeaaDoor.Am11d
namespace Go.Proofs.YtkemihfaohkoeaaDoor.Am
open Go
/-! Sets of numbers below 512, as eight words. -/
def natOf (f : Nat → Bool) : Nat → Nat
  | 0 => 0
  | n + 1 => natOf f n ||| (if f n then 2 ^ n else 0)
theorem natOf_lt (f : Nat → Bool) : ∀ n, natOf f n < 2 ^ n
  | 0 => by simp [natOf]
  | n + 1 => by
    rw [natOf]
    refine Nat.or_lt_two_pow (Nat.lt_of_lt_of_le (natOf_lt f n) (Nat.pow_le_pow_right (by omega) (by omega))) ?_
    split
    · exact Nat.pow_lt_pow_right (by omega) (by omega)
    · exact Nat.two_pow_pos _
theorem natOf_bit (f : Nat → Bool) (j : Nat) : ∀ n, (natOf f n).testBit j = (decide (j < n) && f j)
  | 0 => by simp [natOf]
  | n + 1 => by
    rw [natOf, Nat.testBit_or, natOf_bit f j n]
    by_cases h : j = n
    · subst h
      cases hf : f j <;> simp [hf, Nat.testBit_two_pow_self]
    · have e1 : decide (j < n + 1) = decide (j < n) := by rw [decide_eq_decide]; omega
      rw [e1]
      have e2 : (if f n = true then 2 ^ n else 0).testBit j = false := by
        split
        · rw [Nat.testBit_two_pow]; simpa using fun e => h e.symm
        · simp
      rw [e2, Bool.or_false]
def wordS (S : Nat → Bool) (w : Nat) : Nat := natOf (fun b => S (64 * w + b)) 64
def setL (S : Nat → Bool) : List Value := (List.range 8).map fun w => .int .u64 ((wordS S w : Nat) : Int)
def setA (S : Nat → Bool) : Array Value := ⟨setL S⟩
theorem setL_len (S : Nat → Bool) : (setL S).length = 8 := by simp [setL]
theorem setL_cell (S : Nat → Bool) : (setL S).all isCell = true := by simp [setL, isCell]
theorem setL_plain (S : Nat → Bool) : (setL S).all plain0 = true := by simp [setL, plain0]
theorem setA_plain (S : Nat → Bool) : plain1 (.agg (setA S)) = true := by
  show (setL S).all plain0 = true
  exact setL_plain S
theorem setL_get {S : Nat → Bool} {w : Nat} (h : w < 8) : (setL S)[w]? = some (.int .u64 ((wordS S w : Nat) : Int)) := by
  unfold setL
  rw [List.getElem?_map, List.getElem?_range h]; rfl
theorem wordS_lt (S : Nat → Bool) (w : Nat) : wordS S w < 18446744073709551616 := natOf_lt _ 64
/-- One number more. -/
def addS (S : Nat → Bool) (i : Nat) : Nat → Bool := fun j => S j || decide (j = i)
def noS : Nat → Bool := fun _ => false
theorem wordS_add {S : Nat → Bool} {i : Nat} : wordS (addS S i) (i / 64) = wordS S (i / 64) ||| 2 ^ (i % 64) := by
  apply Nat.eq_of_testBit_eq
  intro j
  unfold wordS
  rw [Nat.testBit_or, natOf_bit, natOf_bit, Nat.testBit_two_pow]
  unfold addS
  by_cases h : j < 64
  · rw [decide_eq_true h, Bool.true_and, Bool.true_and]
    congr 1
    rw [decide_eq_decide]
    omega
  · rw [decide_eq_false h, Bool.false_and, Bool.false_and, Bool.false_or]
    exact (decide_eq_false (by omega)).symm
theorem wordS_other {S : Nat → Bool} {i w : Nat} (h : w ≠ i / 64) : wordS (addS S i) w = wordS S w := by
  apply Nat.eq_of_testBit_eq
  intro j
  unfold wordS
  rw [natOf_bit, natOf_bit]
  by_cases hj : j < 64
  · unfold addS
    have : decide (64 * w + j = i) = false := decide_eq_false (by omega)
    rw [this, Bool.or_false]
  · rw [decide_eq_false hj, Bool.false_and, Bool.false_and]
theorem setL_add {S : Nat → Bool} {i : Nat} (_h : i < 512) : (setL S).set (i / 64) (.int .u64 ((wordS S (i / 64) ||| 2 ^ (i % 64) : Nat) : Int)) = setL (addS S i) := by
  apply List.ext_getElem?
  intro w
  by_cases hw : w < 8
  · rw [setL_get hw]
    by_cases h : w = i / 64
    · subst h
      rw [List.getElem?_set_self (by rw [setL_len]; exact hw), wordS_add]
    · rw [List.getElem?_set_ne (fun e => h e.symm), setL_get hw, wordS_other h]
  · rw [List.getElem?_eq_none (by rw [List.length_set, setL_len]; omega), List.getElem?_eq_none (by rw [setL_len]; omega)]
theorem setL_no : setL noS = List.replicate 8 (.int .u64 0) := by
  have : ∀ w, wordS noS w = 0 := fun w => by
    apply Nat.eq_of_testBit_eq
    intro j
    unfold wordS
    rw [natOf_bit]
    simp [noS]
  unfold setL
  simp only [this]
  rfl
theorem setL_congr {S T : Nat → Bool} (h : ∀ i, i < 512 → S i = T i) : setL S = setL T := by
  unfold setL
  refine List.map_congr_left fun w hw => ?_
  rw [List.mem_range] at hw
  have : wordS S w = wordS T w := by
    apply Nat.eq_of_testBit_eq
    intro j
    unfold wordS
    rw [natOf_bit, natOf_bit]
    by_cases hj : j < 64
    · rw [h (64 * w + j) (by omega)]
    · rw [decide_eq_false hj, Bool.false_and, Bool.false_and]
  rw [this]
theorem u64_wrapN (n : Nat) : IntKind.u64.wrap (n : Int) = ((n % 18446744073709551616 : Nat) : Int) := by
  simp only [IntKind.wrap]
  show (if (false && decide ((n : Int) % (18446744073709551616 : Int) ≥ (9223372036854775808 : Int))) = true then (n : Int) % (18446744073709551616 : Int) - 18446744073709551616 else (n : Int) % (18446744073709551616 : Int)) = _
  rw [if_neg (by simp)]
  omega
theorem ofInt_natU (n : Nat) (h : n < 18446744073709551616) : (BitVec.ofInt IntKind.u64.bits (n : Int)).toNat = n := by
  show (BitVec.ofInt 64 (n : Int)).toNat = n
  rw [BitVec.ofInt_natCast, BitVec.toNat_ofNat]
  exact Nat.mod_eq_of_lt h
theorem tdiv64 (i : Nat) : (i : Int).tdiv 64 = ((i / 64 : Nat) : Int) := by rw [show (64 : Int) = ((64 : Nat) : Int) from rfl, Int.ofNat_tdiv]
theorem tmod64 (i : Nat) : (i : Int).tmod 64 = ((i % 64 : Nat) : Int) := by rw [show (64 : Int) = ((64 : Nat) : Int) from rfl, Int.ofNat_tmod]
/-- A bit is set. -/
theorem bit_or {a i : Nat} (ha : a < 18446744073709551616) {m : Int} (hm : m = ((i % 64 : Nat) : Int)) :
    IntKind.u64.wrap (((BitVec.ofInt IntKind.u64.bits (a : Int) ||| BitVec.ofInt IntKind.u64.bits (IntKind.u64.wrap (1 * 2 ^ min m.toNat IntKind.u64.bits))).toNat : Nat) : Int) = ((a ||| 2 ^ (i % 64) : Nat) : Int) := by
  subst hm
  have hpow : 2 ^ (i % 64) < 18446744073709551616 := Nat.pow_lt_pow_of_lt (a := 2) (n := i % 64) (m := 64) (by omega) (by omega)
  have hb : min ((i % 64 : Nat) : Int).toNat IntKind.u64.bits = i % 64 := by
    rw [Int.toNat_natCast]
    show min (i % 64) 64 = i % 64
    omega
  have h1 : IntKind.u64.wrap (1 * 2 ^ min ((i % 64 : Nat) : Int).toNat IntKind.u64.bits) = ((2 ^ (i % 64) : Nat) : Int) := by
    rw [hb, Int.one_mul]
    have : ((2 : Int) ^ (i % 64)) = ((2 ^ (i % 64) : Nat) : Int) := by push_cast; rfl
    rw [this, u64_wrapN, Nat.mod_eq_of_lt hpow]
  rw [h1, BitVec.toNat_or, ofInt_natU _ ha, ofInt_natU _ hpow, u64_wrapN]
  have := Nat.or_lt_two_pow (n := 64) ha hpow
  rw [Nat.mod_eq_of_lt this]
/-- A bit is read. -/
theorem bit_and {a i : Nat} (ha : a < 18446744073709551616) {m : Int} (hm : m = ((i % 64 : Nat) : Int)) :
    IntKind.u64.wrap (((BitVec.ofInt IntKind.u64.bits ((a : Int).fdiv (2 ^ min m.toNat IntKind.u64.bits)) &&& BitVec.ofInt IntKind.u64.bits 1).toNat : Nat) : Int) = ((a / 2 ^ (i % 64) % 2 : Nat) : Int) := by
  subst hm
  have hb : min ((i % 64 : Nat) : Int).toNat IntKind.u64.bits = i % 64 := by
    rw [Int.toNat_natCast]
    show min (i % 64) 64 = i % 64
    omega
  rw [hb]
  have hf : ((a : Nat) : Int).fdiv (2 ^ (i % 64)) = ((a / 2 ^ (i % 64) : Nat) : Int) := by
    rw [Int.fdiv_eq_ediv_of_nonneg _ (by exact_mod_cast Nat.zero_le _)]
    push_cast
    rfl
  rw [hf]
  have hlt2 : a / 2 ^ (i % 64) < 18446744073709551616 := Nat.lt_of_le_of_lt (Nat.div_le_self _ _) ha
  have hand : (BitVec.ofInt IntKind.u64.bits ((a / 2 ^ (i % 64) : Nat) : Int) &&& BitVec.ofInt IntKind.u64.bits 1).toNat = a / 2 ^ (i % 64) % 2 := by
    rw [BitVec.toNat_and, ofInt_natU _ hlt2]
    have h1 : (BitVec.ofInt IntKind.u64.bits 1).toNat = 1 := by decide
    rw [h1, Nat.and_one_is_mod]
  rw [hand, u64_wrapN, Nat.mod_eq_of_lt (by omega)]
theorem wordS_bit {S : Nat → Bool} {i : Nat} : (wordS S (i / 64) / 2 ^ (i % 64) % 2 = 1) ↔ S i = true := by
  have h := Nat.testBit_eq_decide_div_mod_eq (x := wordS S (i / 64)) (i := i % 64)
  have h2 : (wordS S (i / 64)).testBit (i % 64) = S i := by
    unfold wordS
    rw [natOf_bit, decide_eq_true (Nat.mod_lt _ (by omega)), Bool.true_and]
    congr 1
    omega
  rw [h2] at h
  rw [h, decide_eq_true_eq]
end Go.Proofs.YtkemihfaohkoeaaDoor.Am
namespace Go.Proofs.YtkemihfaohkoeaaDoor.Am11d
open Go Go.Proofs.YtkemihfaohkoeaaDoor.Am
theorem c36 {G : List (List Int)} (hG : Good G) {vG x1 : Value} (prot : Nat) {H : AHeap} (hg : Gr H vG G) (hw : WL G H x1) (hx1 : ∃ a c, x1 = .slice a G.length c) :
    ∃ x' H', callInf cfg 33 [vG, x1] prot H = some (.tuple #[x', .int .i64 (comp G).2], H') ∧ OwnE H' 3 x' G.length (il (nl (comp G).1)) H.length ∧ (comp G).1.length = G.length ∧ Stay none H H' := by
  have h5 := hG.1
  obtain ⟨aG, cG, rfl⟩ := hg.len
  by_cases h0 : 0 < G.length
  · obtain ⟨HA, hHA⟩ : ∃ HA, HA = H ++ [AObj.cells (repCells [.int .i64 0] G.length) 3 (repCells [.int .i64 0] G.length).length .row] := ⟨_, rfl⟩
    have sA : Stay none H HA := by rw [hHA]; exact Stay.app none H _
    have m : Own HA 3 1 (.slice (some ⟨H.length, 0, some (G.length * 1)⟩) G.length G.length) (some H.length) G.length (il (pad G.length (nl []))) := by
      rw [hHA]
      have := own_mk (e := 3) h0 H (.int .i64 0)
      have e1 : il (pad G.length (nl [])) = List.replicate G.length (.int .i64 0) := by simp [il, pad, nl]
      rw [e1]
      exact this
    obtain ⟨H1, z1, z2, z3, z4⟩ := loop36o hG hw (Nat.le_refl _) (H0 := H) (Nat.le_refl _) (prot := prot) hx1 G.length 0 [] 0 HA (by omega) rfl (Nat.le_refl _) (fun x h => by cases h) sA m
    obtain ⟨x', o', H', g1, g2, g3, g4, _⟩ := gc_row (H := H) (ps := [.int .i64 ((comp G).2 : Nat)]) z2 (fun id h => by cases h; exact Nat.le_refl _) (il_plain _) rfl
    refine ⟨x', H', ?_, .inl ⟨o', g2, g4⟩, z3, g3⟩
    obtain ⟨ax, cx, rfl⟩ := hx1
    subst hHA
    exact f33_F_0 _ _ (by omega) rfl (by omega) (by omega) z1 (by rw [pfin_eq, if_neg (by simp [a33])]; exact g1)
  · have hn : G = [] := List.eq_nil_of_length_eq_zero (by omega)
    subst hn
    obtain ⟨ax, cx, rfl⟩ := hx1
    have hl : lpInf (lpOf cfg a33 0 prot H) ([.slice ax 0 cx, .slice (some ⟨H.length, 0, some (0 * 1)⟩) 0 0, .int .i64 0, .int .i64 ((0 : Nat) : Int), .int .i64 0], H ++ [AObj.cells (repCells [.int .i64 0] 0) 3 (repCells [.int .i64 0] 0).length .row]) = some (.exit 0, [.slice (some ⟨H.length, 0, some (0 * 1)⟩) 0 0, .int .i64 0], H ++ [AObj.cells (repCells [.int .i64 0] 0) 3 (repCells [.int .i64 0] 0).length .row]) :=
      lp_last (f33_L0_2 (by decide))
    have hE : OwnE (H ++ [AObj.cells (repCells [.int .i64 0] 0) 3 (repCells [.int .i64 0] 0).length .row]) 3 (.slice (some ⟨H.length, 0, some (0 * 1)⟩) 0 0) 0 [] H.length := .inr ⟨rfl, rfl, H.length, rfl, Nat.le_refl _, append_get.1⟩
    obtain ⟨x', H', g1, g2, g3⟩ := gcE (H := H) hE rfl (ps := [.int .i64 0]) rfl
    exact ⟨x', H', f33_F_0 _ _ (by omega) rfl (by omega) (by decide) hl (by rw [pfin_eq, if_neg (by simp [a33])]; exact g1), g2, rfl, g3⟩

theorem c18 {G : List (List Int)} (hs : Short G) {vG : Value} (prot : Nat) {H : AHeap} (hg : Gr H vG G) :
    (chk G ≠ 0 ∧ callInf cfg 17 [vG] prot H = some (.tuple #[.slice none 0 0, .int .i64 0, .int .i64 (chk G)], H)) ∨
    (chk G = 0 ∧ ∃ x' H', callInf cfg 17 [vG] prot H = some (.tuple #[x', .int .i64 (comp G).2, .int .i64 0], H') ∧ OwnE H' 3 x' G.length (il (nl (comp G).1)) H.length ∧ (comp G).1.length = G.length ∧ Stay none H H') := by
  have h25 := c25 hs H.length hg
  have hgl := hg.len
  by_cases h : chk G = 0
  · refine .inr ⟨h, ?_⟩
    have hG := good_of hs h
    obtain ⟨a, c, H1, w1, w2, w3⟩ := c37 hG H.length hg
    obtain ⟨y, H2, n1, n2, n3, n4⟩ := c36 hG H.length (hg.stay w3) w2 ⟨a, c, rfl⟩
    obtain ⟨x', H', g1, g2, g3⟩ := gcE (H := H) (n2.weak w3.1) (il_plain _) (ps := [.int .i64 ((comp G).2 : Nat), .int .i64 0]) rfl
    refine ⟨x', H', ?_, g2, n3, g3⟩
    obtain ⟨aG, cG, rfl⟩ := hgl
    obtain ⟨ay, cy, rfl⟩ := n2.rd.len
    exact f17_F_1 _ _ h25 (by simp [h]) w1 n1 (by rw [pfin_eq, if_neg (by simp [a17])]; exact g1)
  · refine .inl ⟨h, ?_⟩
    obtain ⟨aG, cG, rfl⟩ := hgl
    exact f17_F_0 h25 (by simpa using h)
end Go.Proofs.YtkemihfaohkoeaaDoor.Am11d
set_option linter.unusedVariables false
open Go Go.Proofs.YtkemihfaohkoeaaDoor.Am
namespace Go.Proofs.YtkemihfaohkoeaaDoor.Am11d
theorem f43_F_0 {x0 : Array Value} {x1 : Int} {H : AHeap} {prot x4p x4o x4l : Nat} {H1 : AHeap} {x7 : Bool} {x13 : Int} {H2 : AHeap} {x19 : Array Value} {H3 : AHeap} {w : Array Value} (rv : Value) (rH : AHeap) (h1 : x0.toList.all isCell = true) (h2 : aalloc cfg.P 46 (H ++ [AObj.cells x0.toList 46 x0.toList.length OMode.var]) = some (Value.pointer (some ⟨x4p, x4o, some x4l⟩), H1)) (h3 : callInf cfg 49 [Value.int .i64 x1] (List.length H) H1 = some (Value.bool x7, H1)) (h4 : (!x7) = false) (h5 : Fit .i64 (x1.tdiv 64)) (h6 : 0 ≤ x1.tdiv 64) (h7 : x1.tdiv 64 < (↑8 : Int)) (h8 : getCells H1 (List.length H) x0.toList.length (0 + (x1.tdiv 64).toNat * 1) 1 = some [Value.int .u64 x13]) (h9 : 0 ≤ x1.tmod 64) (h10 : [Value.int .u64 (IntKind.u64.wrap (↑(BitVec.ofInt IntKind.u64.bits x13 ||| BitVec.ofInt IntKind.u64.bits (IntKind.u64.wrap (1 * 2 ^ min (x1.tmod 64).toNat IntKind.u64.bits))).toNat : Int))].length = 1) (h11 : setCells H1 (List.length H) (List.length H) x0.toList.length (0 + (x1.tdiv 64).toNat * 1) [Value.int .u64 (IntKind.u64.wrap (↑(BitVec.ofInt IntKind.u64.bits x13 ||| BitVec.ofInt IntKind.u64.bits (IntKind.u64.wrap (1 * 2 ^ min (x1.tmod 64).toNat IntKind.u64.bits))).toNat : Int))] = some H2) (h12 : getCells H2 (List.length H) x0.toList.length 0 8 = some x19.toList) (h13 : x19.toList.length = 8) (h14 : setCells H2 (List.length H) x4p x4l x4o x19.toList = some H3) (h15 : getCells H3 x4p x4l x4o 8 = some w.toList) (h16 : pfin a43 H [Value.agg w, Value.int .i64 0] H3 = (rv, rH)) : callInf cfg 43 [.agg x0, .int .i64 x1] prot H = some (rv, rH) :=
  fn_of2 a43 [.e, .r (.pointer (some ⟨x4p, x4o, some x4l⟩)) H1, .v (.bool x7), .e, .b false, .e, .e, .v (.int .u64 x13), .e, .e, .e, .e, .h H2, .v (.agg x19), .h H3, .v (.agg w)] (ai h1 (ai h2 (ai h3 (ai h4 (ai (show (64 : Int) ≠ 0 by decide) (ai h5 (ai h6 (ai h7 (ai h8 (ai (show (64 : Int) ≠ 0 by decide) (ai h9 (ai h6 (ai h7 (ai h10 (ai h11 (ai h12 (ai h13 (ai h14 (ai h15 h16))))))))))))))))))) (by kernel_rfl) rfl
end Go.Proofs.YtkemihfaohkoeaaDoor.Am11d
set_option linter.unusedVariables false
open Go Go.Proofs.YtkemihfaohkoeaaDoor.Am
namespace Go.Proofs.YtkemihfaohkoeaaDoor.Am11d
theorem f49_F_0 {x0 : Int} {H : AHeap} {prot : Nat} (h1 : x0 ≥ 0) : callInf cfg 49 [.int .i64 x0] prot H = some (Value.bool (decide (x0 < 512)), H) :=
  fn_of2 a49 [.e, .b true, .b true, .e, .b true] (ai (decide_eq_true h1) (ai (decide_eq_true h1) (ai (decide_eq_true h1) (Eq.refl ((Value.bool (decide (x0 < 512)), H) : Value × AHeap))))) (by kernel_rfl) rfl
end Go.Proofs.YtkemihfaohkoeaaDoor.Am11d
set_option linter.unusedVariables false
open Go Go.Proofs.YtkemihfaohkoeaaDoor.Am
namespace Go.Proofs.YtkemihfaohkoeaaDoor.Am11d
theorem f35_F_0 {x0 : Array Value} {x1 : Int} {H : AHeap} {prot x4p x4o x4l : Nat} {H1 : AHeap} {x8 x10a : Array Value} {x10b : Int} {x5p x5o x5l : Nat} {H2 H3 : AHeap} {x13 : Array Value} {H4 : AHeap} {w : Array Value} (rv : Value) (rH : AHeap) (h1 : x0.toList.all isCell = true) (h2 : aalloc cfg.P 46 (H ++ [AObj.cells x0.toList 46 x0.toList.length OMode.var]) = some (Value.pointer (some ⟨x4p, x4o, some x4l⟩), H1)) (h3 : getCells H1 (List.length H) x0.toList.length 0 8 = some x8.toList) (h4 : callInf cfg 43 [Value.agg x8, Value.int .i64 x1] (List.length H) H1 = some (Value.tuple { toList := [Value.agg x10a, Value.int .i64 x10b] }, H1)) (h5 : aalloc cfg.P 46 H1 = some (Value.pointer (some ⟨x5p, x5o, some x5l⟩), H2)) (h6 : x10a.toList.length = 8) (h7 : setCells H2 (List.length H) x5p x5l x5o x10a.toList = some H3) (h8 : getCells H3 x5p x5l x5o 8 = some x13.toList) (h9 : x13.toList.length = 8) (h10 : setCells H3 (List.length H) x4p x4l x4o x13.toList = some H4) (h11 : getCells H4 x4p x4l x4o 8 = some w.toList) (h12 : pfin a35 H [Value.agg w] H4 = (rv, rH)) : callInf cfg 35 [.agg x0, .int .i64 x1] prot H = some (rv, rH) :=
  fn_of2 a35 [.e, .r (.pointer (some ⟨x4p, x4o, some x4l⟩)) H1, .v (.agg x8), .v (.tuple #[.agg x10a, .int .i64 x10b]), .r (.pointer (some ⟨x5p, x5o, some x5l⟩)) H2, .h H3, .v (.agg x13), .h H4, .v (.agg w)] (ai h1 (ai h2 (ai h3 (ai h4 (ai h5 (ai h6 (ai h7 (ai h8 (ai h9 (ai h10 (ai h11 h12))))))))))) (by kernel_rfl) rfl
end Go.Proofs.YtkemihfaohkoeaaDoor.Am11d
set_option linter.unusedVariables false
open Go Go.Proofs.YtkemihfaohkoeaaDoor.Am
namespace Go.Proofs.YtkemihfaohkoeaaDoor.Am11d
theorem f20_F_0 {x0 : Array Value} {x1 : Int} {H : AHeap} {prot : Nat} {x8 : Int} (h1 : x0.toList.all isCell = true) (h2 : Fit .i64 (x1.tdiv 64)) (h3 : 0 ≤ x1.tdiv 64) (h4 : x1.tdiv 64 < (↑8 : Int)) (h5 : getCells (H ++ [AObj.cells x0.toList 46 x0.toList.length OMode.var]) (List.length H) x0.toList.length (0 + (x1.tdiv 64).toNat * 1) 1 = some [Value.int .u64 x8]) (h6 : 0 ≤ IntKind.u64.wrap (x1.tmod 64)) : callInf cfg 20 [.agg x0, .int .i64 x1] prot H = some (Value.bool (IntKind.u64.wrap (↑(BitVec.ofInt IntKind.u64.bits (x8.fdiv (2 ^ min (IntKind.u64.wrap (x1.tmod 64)).toNat IntKind.u64.bits)) &&& BitVec.ofInt IntKind.u64.bits 1).toNat : Int) == 1), H) :=
  fn_of2 a20 [.e, .e, .e, .v (.int .u64 x8), .e, .e, .e, .e, .e] (ai h1 (ai (show (64 : Int) ≠ 0 by decide) (ai h2 (ai h3 (ai h4 (ai h5 (ai (show (64 : Int) ≠ 0 by decide) (ai h6 (Eq.refl ((Value.bool (IntKind.u64.wrap (↑(BitVec.ofInt IntKind.u64.bits (x8.fdiv (2 ^ min (IntKind.u64.wrap (x1.tmod 64)).toNat IntKind.u64.bits)) &&& BitVec.ofInt IntKind.u64.bits 1).toNat : Int) == 1), H) : Value × AHeap)))))))))) (by kernel_rfl) rfl
end Go.Proofs.YtkemihfaohkoeaaDoor.Am11d
namespace Go.Proofs.YtkemihfaohkoeaaDoor.Am11d
open Go Go.Proofs.YtkemihfaohkoeaaDoor.Am
theorem z39 : tzero cfg.P 46 = some (.agg ((List.replicate 8 (.int .u64 0)).toArray)) := by kernel_rfl
theorem bd39 : abuild cfg.P 46 [] = some (.agg (setA noS)) := by
  have h : abuild cfg.P 46 [] = some (.agg ⟨List.replicate 8 (.int .u64 0)⟩) := by kernel_rfl
  rw [h]
  unfold setA
  rw [setL_no]
theorem al39 (H : AHeap) : aalloc cfg.P 46 H = some (.pointer (some ⟨H.length, 0, some 8⟩), H ++ [.cells (setL noS) 46 8 .var]) := by
  rw [setL_no]; exact alloc_arr z39 rfl H
theorem pf_plain {fn : AFunc} {H H' : AHeap} {vs : List Value} (hm : fn.muts = false) (h : vs.all plain1 = true) : pfin fn H vs H' = (tupled vs, H) := by
  rw [pfin_eq, if_neg (by simp [hm])]; exact gc_plain h

theorem c46 {S : Nat → Bool} {i : Nat} (hi : i < 512) (prot : Nat) (H : AHeap) : callInf cfg 43 [.agg (setA S), .int .i64 i] prot H = some (.tuple #[.agg (setA (addS S i)), .int .i64 0], H) := by
  obtain ⟨HA, hHA⟩ : ∃ HA, HA = H ++ [AObj.cells (setL S) 46 (setL S).length .var] := ⟨_, rfl⟩
  have lA : HA.length = H.length + 1 := by rw [hHA]; simp
  obtain ⟨HB, hHB⟩ : ∃ HB, HB = HA ++ [AObj.cells (setL noS) 46 8 .var] := ⟨_, rfl⟩
  have lB : HB.length = H.length + 2 := by rw [hHB, List.length_append, List.length_singleton]; omega
  have gA : HB[H.length]? = some (.cells (setL S) 46 8 .var) := by
    rw [hHB, List.getElem?_append_left (by omega), hHA, append_get.1, setL_len]
  have gB : HB[HA.length]? = some (.cells (setL noS) 46 8 .var) := by rw [hHB]; exact append_get.1
  have ha := al39 HA
  rw [← hHB] at ha
  have h50 : callInf cfg 49 [.int .i64 (i : Int)] H.length HB = some (.bool true, HB) := by
    have := f49_F_0 (x0 := (i : Int)) (H := HB) (prot := H.length) (by omega)
    rwa [decide_eq_true (show (i : Int) < 512 by omega)] at this
  have ed : (i : Int).tdiv 64 = ((i / 64 : Nat) : Int) := tdiv64 i
  have hw : i / 64 < 8 := by omega
  have r1 := arr_get gA (setL_len S) (setL_get hw)
  obtain ⟨HC, hHC⟩ : ∃ HC, HC = HB.set H.length (.cells (setL (addS S i)) 46 8 .var) := ⟨_, rfl⟩
  have s1 : setCells HB H.length H.length 8 (0 + i / 64 * 1) [.int .u64 ((wordS S (i / 64) ||| 2 ^ (i % 64) : Nat) : Int)] = some HC := by
    rw [hHC, ← setL_add hi]
    exact arr_set gA (setL_len S) (Nat.le_refl _) hw rfl
  have gC : HC[H.length]? = some (.cells (setL (addS S i)) 46 8 .var) := by rw [hHC, List.getElem?_set_self (by omega)]
  have gC2 : HC[HA.length]? = some (.cells (setL noS) 46 8 .var) := by rw [hHC, List.getElem?_set_ne (by omega)]; exact gB
  obtain ⟨HD, hHD⟩ : ∃ HD, HD = HC.set HA.length (.cells (setL (addS S i)) 46 8 .var) := ⟨_, rfl⟩
  have s2 : setCells HC H.length HA.length 8 0 (setL (addS S i)) = some HD := by rw [hHD]; exact arr_put gC2 (setL_len _) (by omega) (setL_len _) (setL_cell _)
  have lC : HC.length = HB.length := by rw [hHC]; simp
  have gD : HD[HA.length]? = some (.cells (setL (addS S i)) 46 8 .var) := by rw [hHD, List.getElem?_set_self (by omega)]
  have hor := bit_or (a := wordS S (i / 64)) (i := i) (wordS_lt _ _) (tmod64 i)
  rw [← hor] at s1
  have e8 : (setA S).toList.length = 8 := setL_len S
  subst hHA
  refine f43_F_0 (x13 := ((wordS S (i / 64) : Nat) : Int)) (x19 := setA (addS S i)) (w := setA (addS S i)) _ _ (setL_cell S) ha h50 rfl (by rw [ed]; exact fit64 (by omega) (by omega)) (by rw [ed]; omega) (by rw [ed]; omega) ?_ (by rw [tmod64]; omega) rfl ?_ ?_ (setL_len _) s2 (arr_all gD (setL_len _)) (pf_plain rfl (by rw [List.all_cons, setA_plain]; rfl))
  · rw [e8, ed, Int.toNat_natCast]; exact r1
  · rw [e8, ed, Int.toNat_natCast]; exact s1
  · rw [e8]; exact arr_all gC (setL_len _)
theorem c38 {S : Nat → Bool} {i : Nat} (hi : i < 512) (prot : Nat) (H : AHeap) : callInf cfg 35 [.agg (setA S), .int .i64 i] prot H = some (.agg (setA (addS S i)), H) := by
  obtain ⟨HA, hHA⟩ : ∃ HA, HA = H ++ [AObj.cells (setL S) 46 (setL S).length .var] := ⟨_, rfl⟩
  have lA : HA.length = H.length + 1 := by rw [hHA]; simp
  obtain ⟨HB, hHB⟩ : ∃ HB, HB = HA ++ [AObj.cells (setL noS) 46 8 .var] := ⟨_, rfl⟩
  have lB : HB.length = H.length + 2 := by rw [hHB, List.length_append, List.length_singleton]; omega
  have gA : HB[H.length]? = some (.cells (setL S) 46 8 .var) := by
    rw [hHB, List.getElem?_append_left (by omega), hHA, append_get.1, setL_len]
  have gB : HB[HA.length]? = some (.cells (setL noS) 46 8 .var) := by rw [hHB]; exact append_get.1
  have ha := al39 HA
  rw [← hHB] at ha
  obtain ⟨HC, hHC⟩ : ∃ HC, HC = HB ++ [AObj.cells (setL noS) 46 8 .var] := ⟨_, rfl⟩
  have lC : HC.length = H.length + 3 := by rw [hHC, List.length_append, List.length_singleton]; omega
  have ha2 := al39 HB
  rw [← hHC] at ha2
  have gC : HC[HB.length]? = some (.cells (setL noS) 46 8 .var) := by rw [hHC]; exact append_get.1
  have gC2 : HC[HA.length]? = some (.cells (setL noS) 46 8 .var) := by rw [hHC, List.getElem?_append_left (by omega)]; exact gB
  obtain ⟨HD, hHD⟩ : ∃ HD, HD = HC.set HB.length (.cells (setL (addS S i)) 46 8 .var) := ⟨_, rfl⟩
  have s1 : setCells HC H.length HB.length 8 0 (setL (addS S i)) = some HD := by rw [hHD]; exact arr_put gC (setL_len _) (by omega) (setL_len _) (setL_cell _)
  have gD : HD[HB.length]? = some (.cells (setL (addS S i)) 46 8 .var) := by rw [hHD, List.getElem?_set_self (by omega)]
  have gD2 : HD[HA.length]? = some (.cells (setL noS) 46 8 .var) := by rw [hHD, List.getElem?_set_ne (by omega)]; exact gC2
  obtain ⟨HE, hHE⟩ : ∃ HE, HE = HD.set HA.length (.cells (setL (addS S i)) 46 8 .var) := ⟨_, rfl⟩
  have s2 : setCells HD H.length HA.length 8 0 (setL (addS S i)) = some HE := by rw [hHE]; exact arr_put gD2 (setL_len _) (by omega) (setL_len _) (setL_cell _)
  have gE : HE[HA.length]? = some (.cells (setL (addS S i)) 46 8 .var) := by rw [hHE, List.getElem?_set_self (by rw [hHD, List.length_set]; omega)]
  have h46 := c46 (S := S) hi H.length HB
  have e8 : (setA S).toList.length = 8 := setL_len S
  subst hHA
  refine f35_F_0 (x8 := setA S) (x10a := setA (addS S i)) (x13 := setA (addS S i)) (w := setA (addS S i)) _ _ (setL_cell S) ha ?_ h46 ha2 (setL_len _) s1 (arr_all gD (setL_len _)) (setL_len _) s2 (arr_all gE (setL_len _)) (pf_plain rfl (by rw [List.all_cons, setA_plain]; rfl))
  rw [e8]; exact arr_all gA (setL_len _)
theorem c20 {S : Nat → Bool} {i : Nat} (hi : i < 512) (prot : Nat) (H : AHeap) : callInf cfg 20 [.agg (setA S), .int .i64 i] prot H = some (.bool (S i), H) := by
  have gA : (H ++ [AObj.cells (setL S) 46 (setL S).length .var])[H.length]? = some (.cells (setL S) 46 8 .var) := by rw [append_get.1, setL_len]
  have ed : (i : Int).tdiv 64 = ((i / 64 : Nat) : Int) := tdiv64 i
  have hw : i / 64 < 8 := by omega
  have r1 := arr_get gA (setL_len S) (setL_get hw)
  have em : IntKind.u64.wrap ((i : Int).tmod 64) = ((i % 64 : Nat) : Int) := by rw [tmod64, u64_wrapN, Nat.mod_eq_of_lt (by omega)]
  have hand := bit_and (a := wordS S (i / 64)) (i := i) (wordS_lt _ _) em
  have e8 : (setA S).toList.length = 8 := setL_len S
  have h := f20_F_0 (x0 := setA S) (x1 := (i : Int)) (x8 := ((wordS S (i / 64) : Nat) : Int)) (H := H) (prot := prot) (setL_cell S) (by rw [ed]; exact fit64 (by omega) (by omega)) (by rw [ed]; omega) (by rw [ed]; omega) (by rw [e8, ed, Int.toNat_natCast]; exact r1) (by rw [em]; omega)
  rw [hand] at h
  have hb : (((wordS S (i / 64) / 2 ^ (i % 64) % 2 : Nat) : Int) == 1) = S i := by
    rw [Bool.eq_iff_iff, beq_iff_eq, ← wordS_bit]
    omega
  rw [hb] at h
  exact h
end Go.Proofs.YtkemihfaohkoeaaDoor.Am11d
set_option linter.unusedVariables false
open Go Go.Proofs.YtkemihfaohkoeaaDoor.Am
namespace Go.Proofs.YtkemihfaohkoeaaDoor.Am11d
theorem f19_F_0 {x0a : Option Addr} {x0n x0c : Nat} {x1 : Int} {H : AHeap} {prot x4p x4o x4l : Nat} {H1 : AHeap} {x11 : Int} {x14 : Array Value} {H2 : AHeap} {w : Array Value} (rv : Value) (rH : AHeap) (h1 : aalloc cfg.P 46 H = some (Value.pointer (some ⟨x4p, x4o, some x4l⟩), H1)) (h2 : callInf cfg 22 [Value.slice x0a x0n x0c] (List.length H) H1 = some (Value.int .i64 x11, H1)) (h3 : (x11 != 0) = true) (h4 : abuild cfg.P 46 [] = some (Value.agg x14)) (h5 : x14.toList.length = 8) (h6 : setCells H1 (List.length H) x4p x4l x4o x14.toList = some H2) (h7 : getCells H2 x4p x4l x4o 8 = some w.toList) (h8 : pfin a19 H [Value.agg w, Value.int .i64 x11] H2 = (rv, rH)) : callInf cfg 19 [.slice x0a x0n x0c, .int .i64 x1] prot H = some (rv, rH) :=
  fn_of2 a19 [.r (.pointer (some ⟨x4p, x4o, some x4l⟩)) H1, .v (.int .i64 x11), .e, .b true, .v (.agg x14), .h H2, .v (.agg w)] (ai h1 (ai h2 (ai h3 (ai h4 (ai h5 (ai h6 (ai h7 h8))))))) (by kernel_rfl) rfl
theorem f19_F_1 {x0a : Option Addr} {x0n x0c : Nat} {x1 : Int} {H : AHeap} {prot x4p x4o x4l : Nat} {H1 : AHeap} {x11 : Int} {x24 : Array Value} {H2 : AHeap} {w : Array Value} (rv : Value) (rH : AHeap) (h1 : aalloc cfg.P 46 H = some (Value.pointer (some ⟨x4p, x4o, some x4l⟩), H1)) (h2 : callInf cfg 22 [Value.slice x0a x0n x0c] (List.length H) H1 = some (Value.int .i64 x11, H1)) (h3 : (x11 != 0) = false) (h4 : x1 < 0) (h5 : abuild cfg.P 46 [] = some (Value.agg x24)) (h6 : x24.toList.length = 8) (h7 : setCells H1 (List.length H) x4p x4l x4o x24.toList = some H2) (h8 : getCells H2 x4p x4l x4o 8 = some w.toList) (h9 : pfin a19 H [Value.agg w, Value.int .i64 3] H2 = (rv, rH)) : callInf cfg 19 [.slice x0a x0n x0c, .int .i64 x1] prot H = some (rv, rH) :=
  fn_of2 a19 [.r (.pointer (some ⟨x4p, x4o, some x4l⟩)) H1, .v (.int .i64 x11), .e, .b false, .e, .b true, .b true, .b true, .b true, .b true, .b true, .v (.agg x24), .h H2, .v (.agg w)] (ai h1 (ai h2 (ai h3 (ai (decide_eq_true h4) (ai (decide_eq_true h4) (ai (decide_eq_true h4) (ai (decide_eq_true h4) (ai (decide_eq_true h4) (ai (Eq.refl true) (ai h5 (ai h6 (ai h7 (ai h8 h9))))))))))))) (by kernel_rfl) rfl
theorem f19_F_2 {x0a : Option Addr} {x0n x0c : Nat} {x1 : Int} {H : AHeap} {prot x4p x4o x4l : Nat} {H1 : AHeap} {x11 : Int} {x24 : Array Value} {H2 : AHeap} {w : Array Value} (rv : Value) (rH : AHeap) (h1 : aalloc cfg.P 46 H = some (Value.pointer (some ⟨x4p, x4o, some x4l⟩), H1)) (h2 : callInf cfg 22 [Value.slice x0a x0n x0c] (List.length H) H1 = some (Value.int .i64 x11, H1)) (h3 : (x11 != 0) = false) (h4 : ¬(x1 < 0)) (h5 : x1 ≥ (↑x0n : Int)) (h6 : abuild cfg.P 46 [] = some (Value.agg x24)) (h7 : x24.toList.length = 8) (h8 : setCells H1 (List.length H) x4p x4l x4o x24.toList = some H2) (h9 : getCells H2 x4p x4l x4o 8 = some w.toList) (h10 : pfin a19 H [Value.agg w, Value.int .i64 3] H2 = (rv, rH)) : callInf cfg 19 [.slice x0a x0n x0c, .int .i64 x1] prot H = some (rv, rH) :=
  fn_of2 a19 [.r (.pointer (some ⟨x4p, x4o, some x4l⟩)) H1, .v (.int .i64 x11), .e, .b false, .e, .b false, .b false, .b false, .e, .b false, .e, .b false, .b true, .v (.agg x24), .h H2, .v (.agg w)] (ai h1 (ai h2 (ai h3 (ai (decide_eq_false h4) (ai (decide_eq_false h4) (ai (decide_eq_false h4) (ai (decide_eq_false h4) (ai (decide_eq_false h4) (ai (decide_eq_true h5) (ai h6 (ai h7 (ai h8 (ai h9 h10))))))))))))) (by kernel_rfl) rfl
theorem f19_F_3 {x0a : Option Addr} {x0n x0c : Nat} {x1 : Int} {H : AHeap} {prot x4p x4o x4l : Nat} {H1 : AHeap} {x11 : Int} {x25 x27 : Array Value} {x7p x7o x7l : Nat} {H2 H3 : AHeap} {x30p x30o x30l : Nat} {H4 : AHeap} {z4p z4o z4l z7p z7o z7l : Nat} {H5 : AHeap} {x42 : Array Value} {H6 : AHeap} {w : Array Value} (rv : Value) (rH : AHeap) (h1 : aalloc cfg.P 46 H = some (Value.pointer (some ⟨x4p, x4o, some x4l⟩), H1)) (h2 : callInf cfg 22 [Value.slice x0a x0n x0c] (List.length H) H1 = some (Value.int .i64 x11, H1)) (h3 : (x11 != 0) = false) (h4 : ¬(x1 < 0)) (h5 : ¬(x1 ≥ (↑x0n : Int))) (h6 : abuild cfg.P 46 [] = some (Value.agg x25)) (h7 : callInf cfg 35 [Value.agg x25, Value.int .i64 x1] (List.length H) H1 = some (Value.agg x27, H1)) (h8 : aalloc cfg.P 46 H1 = some (Value.pointer (some ⟨x7p, x7o, some x7l⟩), H2)) (h9 : x27.toList.length = 8) (h10 : setCells H2 (List.length H) x7p x7l x7o x27.toList = some H3) (h11 : callInf cfg 36 [Value.slice x0a x0n x0c, Value.int .i64 x1] (List.length H) H3 = some (Value.pointer (some ⟨x30p, x30o, some x30l⟩), H4)) (h12 : lpInf (lpOf cfg a19 0 prot H) ([Value.pointer (some ⟨x4p, x4o, some x4l⟩), Value.pointer (some ⟨x7p, x7o, some x7l⟩), Value.pointer (some ⟨x30p, x30o, some x30l⟩), Value.int .i64 0], H4) = some (Ex.exit 0, [Value.pointer (some ⟨z4p, z4o, some z4l⟩), Value.pointer (some ⟨z7p, z7o, some z7l⟩)], H5)) (h13 : getCells H5 z7p z7l z7o 8 = some x42.toList) (h14 : x42.toList.length = 8) (h15 : setCells H5 (List.length H) z4p z4l z4o x42.toList = some H6) (h16 : getCells H6 z4p z4l z4o 8 = some w.toList) (h17 : pfin a19 H [Value.agg w, Value.int .i64 0] H6 = (rv, rH)) : callInf cfg 19 [.slice x0a x0n x0c, .int .i64 x1] prot H = some (rv, rH) :=
  fn_of2 a19 [.r (.pointer (some ⟨x4p, x4o, some x4l⟩)) H1, .v (.int .i64 x11), .e, .b false, .e, .b false, .b false, .b false, .e, .b false, .e, .b false, .b false, .v (.agg x25), .v (.agg x27), .r (.pointer (some ⟨x7p, x7o, some x7l⟩)) H2, .h H3, .r (.pointer (some ⟨x30p, x30o, some x30l⟩)) H4, .lo (.exit 0, [.pointer (some ⟨z4p, z4o, some z4l⟩), .pointer (some ⟨z7p, z7o, some z7l⟩)], H5), .v (.agg x42), .h H6, .v (.agg w)] (ai h1 (ai h2 (ai h3 (ai (decide_eq_false h4) (ai (decide_eq_false h4) (ai (decide_eq_false h4) (ai (decide_eq_false h4) (ai (decide_eq_false h4) (ai (decide_eq_false h5) (ai h6 (ai h7 (ai h8 (ai h9 (ai h10 (ai h11 (ai h12 (ai h13 (ai h14 (ai h15 (ai h16 h17)))))))))))))))))))) (by kernel_rfl) rfl
theorem f19_L0_0 {x4p x4o x4l x7p x7o x7l x30p x30o x30l : Nat} {x31 : Int} {H0 : AHeap} {prot : Nat} {H : AHeap} {x36 : Bool} {x38 x40 : Array Value} {H2 : AHeap} (h1 : x31 < 512) (h2 : 0 ≤ x31) (h3 : x31 < (↑512 : Int)) (h4 : getCells H x30p x30l (x30o + x31.toNat * 1) 1 = some [Value.bool x36]) (h5 : x36 = true) (h6 : getCells H x7p x7l x7o 8 = some x38.toList) (h7 : callInf cfg 35 [Value.agg x38, Value.int .i64 x31] (List.length H0) H = some (Value.agg x40, H)) (h8 : x40.toList.length = 8) (h9 : setCells H (List.length H0) x7p x7l x7o x40.toList = some H2) (h10 : Fit .i64 (x31 + 1)) : lpOf cfg a19 0 prot H0 ([.pointer (some ⟨x4p, x4o, some x4l⟩), .pointer (some ⟨x7p, x7o, some x7l⟩), .pointer (some ⟨x30p, x30o, some x30l⟩), .int .i64 x31], H) = some (Sum.inl ([Value.pointer (some ⟨x4p, x4o, some x4l⟩), Value.pointer (some ⟨x7p, x7o, some x7l⟩), Value.pointer (some ⟨x30p, x30o, some x30l⟩), Value.int .i64 (x31 + 1)], H2)) :=
  lp_of2 [.e, .b true, .e, .v (.bool x36), .b true, .v (.agg x38), .v (.agg x40), .h H2, .e] (ai (decide_eq_true h1) (ai h2 (ai h3 (ai h4 (ai h5 (ai h6 (ai h7 (ai h8 (ai h9 (ai h10 (Eq.refl (Sum.inl ([Value.pointer (some ⟨x4p, x4o, some x4l⟩), Value.pointer (some ⟨x7p, x7o, some x7l⟩), Value.pointer (some ⟨x30p, x30o, some x30l⟩), Value.int .i64 (x31 + 1)], H2) : LS ⊕ LO)))))))))))) (by kernel_rfl)
theorem f19_L0_1 {x4p x4o x4l x7p x7o x7l x30p x30o x30l : Nat} {x31 : Int} {H0 : AHeap} {prot : Nat} {H : AHeap} {x36 : Bool} (h1 : x31 < 512) (h2 : 0 ≤ x31) (h3 : x31 < (↑512 : Int)) (h4 : getCells H x30p x30l (x30o + x31.toNat * 1) 1 = some [Value.bool x36]) (h5 : x36 = false) (h6 : Fit .i64 (x31 + 1)) : lpOf cfg a19 0 prot H0 ([.pointer (some ⟨x4p, x4o, some x4l⟩), .pointer (some ⟨x7p, x7o, some x7l⟩), .pointer (some ⟨x30p, x30o, some x30l⟩), .int .i64 x31], H) = some (Sum.inl ([Value.pointer (some ⟨x4p, x4o, some x4l⟩), Value.pointer (some ⟨x7p, x7o, some x7l⟩), Value.pointer (some ⟨x30p, x30o, some x30l⟩), Value.int .i64 (x31 + 1)], H)) :=
  lp_of2 [.e, .b true, .e, .v (.bool x36), .b false, .e] (ai (decide_eq_true h1) (ai h2 (ai h3 (ai h4 (ai h5 (ai h6 (Eq.refl (Sum.inl ([Value.pointer (some ⟨x4p, x4o, some x4l⟩), Value.pointer (some ⟨x7p, x7o, some x7l⟩), Value.pointer (some ⟨x30p, x30o, some x30l⟩), Value.int .i64 (x31 + 1)], H) : LS ⊕ LO)))))))) (by kernel_rfl)
theorem f19_L0_2 {x4p x4o x4l x7p x7o x7l x30p x30o x30l : Nat} {x31 : Int} {H0 : AHeap} {prot : Nat} {H : AHeap} (h1 : ¬(x31 < 512)) : lpOf cfg a19 0 prot H0 ([.pointer (some ⟨x4p, x4o, some x4l⟩), .pointer (some ⟨x7p, x7o, some x7l⟩), .pointer (some ⟨x30p, x30o, some x30l⟩), .int .i64 x31], H) = some (Sum.inr (Ex.exit 0, [Value.pointer (some ⟨x4p, x4o, some x4l⟩), Value.pointer (some ⟨x7p, x7o, some x7l⟩)], H)) :=
  lp_of2 [.e, .b false] (ai (decide_eq_false h1) (Eq.refl (Sum.inr (Ex.exit 0, [Value.pointer (some ⟨x4p, x4o, some x4l⟩), Value.pointer (some ⟨x7p, x7o, some x7l⟩)], H) : LS ⊕ LO))) (by kernel_rfl)
end Go.Proofs.YtkemihfaohkoeaaDoor.Am11d
namespace Go.Proofs.YtkemihfaohkoeaaDoor.Am11d
open Go Go.Proofs.YtkemihfaohkoeaaDoor.Am
/-- All that is reached, the vertex too. -/
noncomputable def rs (G : List (List Int)) (f : Nat) : Nat → Bool := fun x => @decide (x = f ∨ Rch G f x) (Classical.propDecidable _)
theorem rs_iff {G : List (List Int)} {f x : Nat} : rs G f x = true ↔ x = f ∨ Rch G f x := by unfold rs; exact @decide_eq_true_iff _ (Classical.propDecidable _)
theorem loop19 {M : List Bool} (hM : M.length = 512) {p4 p7 pm : Nat} {H0 : AHeap} {prot : Nat} (hp : H0.length ≤ p7) (hne : p7 ≠ pm) {f : Nat} : ∀ (d i : Nat) (T : Nat → Bool) (H : AHeap), i + d = 512 → (∀ x, x < 512 → T x = (decide (x = f) || (decide (x < i) && at_ M x))) → H[p7]? = some (.cells (setL T) 46 8 .var) → H[pm]? = some (.cells (bll M) 76 512 .var) →
    ∃ T' H', lpInf (lpOf cfg a19 0 prot H0) ([.pointer (some ⟨p4, 0, some 8⟩), .pointer (some ⟨p7, 0, some 8⟩), .pointer (some ⟨pm, 0, some 512⟩), .int .i64 i], H) = some (.exit 0, [.pointer (some ⟨p4, 0, some 8⟩), .pointer (some ⟨p7, 0, some 8⟩)], H') ∧
      (∀ x, x < 512 → T' x = (decide (x = f) || at_ M x)) ∧ H'[p7]? = some (.cells (setL T') 46 8 .var) ∧ Stay (some p7) H H'
  | 0, i, T, H, hi, hT, h7, hm => ⟨T, H, lp_last (f19_L0_2 (by omega)), fun x hx => by rw [hT x hx, decide_eq_true (show x < i by omega), Bool.true_and], h7, Stay.refl _ _⟩
  | d + 1, i, T, H, hi, hT, h7, hm => by
    have hil : i < 512 := by omega
    have gm := arr_get hm (by simp [bll, hM]) (at_get (show i < M.length by omega))
    have fi : Fit .i64 ((i : Int) + 1) := fit64 (by omega) (by omega)
    by_cases ha : at_ M i = true
    · rw [ha] at gm
      have h38 := c38 (S := T) hil H0.length H
      obtain ⟨H2, hH2⟩ : ∃ H2, H2 = H.set p7 (.cells (setL (addS T i)) 46 8 .var) := ⟨_, rfl⟩
      have s2 : Stay (some p7) H H2 := by rw [hH2]; exact set_stay
      have hset : setCells H H0.length p7 8 0 (setL (addS T i)) = some H2 := by rw [hH2]; exact arr_put h7 (setL_len _) hp (setL_len _) (setL_cell _)
      obtain ⟨T', H', z1, z2, z3, z4⟩ := loop19 hM (p4 := p4) (prot := prot) hp hne (f := f) d (i + 1) (addS T i) H2 (by omega) (fun x hx => by
        unfold addS
        rw [hT x hx]
        by_cases e : x = i
        · subst e
          rw [decide_eq_true (show x < x + 1 by omega), ha]
          simp
        · have e1 : decide (x < i + 1) = decide (x < i) := by rw [decide_eq_decide]; omega
          rw [e1, decide_eq_false e, Bool.or_false]) (by rw [hH2, List.getElem?_set_self (List.getElem?_eq_some_iff.1 h7).1]) (by rw [s2.2 _ (List.getElem?_eq_some_iff.1 hm).1 (fun e => hne (Option.some.inj e))]; exact hm)
      exact ⟨T', H', lp_next (f19_L0_0 (x38 := setA T) (x40 := setA (addS T i)) (by omega) (by omega) (by omega) gm rfl (arr_all h7 (setL_len _)) h38 (setL_len _) hset fi) z1, z2, z3, s2.trans z4⟩
    · have ha : at_ M i = false := by simpa using ha
      rw [ha] at gm
      obtain ⟨T', H', z1, z2, z3, z4⟩ := loop19 hM (p4 := p4) (prot := prot) hp hne (f := f) d (i + 1) T H (by omega) (fun x hx => by
        rw [hT x hx]
        by_cases e : x = i
        · subst e
          rw [ha, Bool.and_false, Bool.and_false]
        · have e1 : decide (x < i + 1) = decide (x < i) := by rw [decide_eq_decide]; omega
          rw [e1]) h7 hm
      exact ⟨T', H', lp_next (f19_L0_1 (by omega) (by omega) (by omega) gm rfl fi) z1, z2, z3, z4⟩

/-- What Reach answers. -/
noncomputable def reachV (G : List (List Int)) (f : Int) : (Nat → Bool) × Int :=
  if chk G ≠ 0 then (noS, chk G) else if f < 0 ∨ (G.length : Int) ≤ f then (noS, 3) else (rs G f.toNat, 0)
theorem c19 {G : List (List Int)} (hs : Short G) {vG : Value} (f : Int) (prot : Nat) {H : AHeap} (hg : Gr H vG G) :
    callInf cfg 19 [vG, .int .i64 f] prot H = some (.tuple #[.agg (setA (reachV G f).1), .int .i64 (reachV G f).2], H) := by
  obtain ⟨HA, hHA⟩ : ∃ HA, HA = H ++ [AObj.cells (setL noS) 46 8 .var] := ⟨_, rfl⟩
  have lA : HA.length = H.length + 1 := by rw [hHA, List.length_append, List.length_singleton]
  have sA : Stay none H HA := by rw [hHA]; exact Stay.app none H _
  have a1 := al39 H
  rw [← hHA] at a1
  have gA : HA[H.length]? = some (.cells (setL noS) 46 8 .var) := by rw [hHA]; exact append_get.1
  have h25 := c25 hs H.length (hg.stay sA)
  have hgl := hg.len
  have no : ∀ e : Int, ∃ H1, setCells HA H.length H.length 8 0 (setL noS) = some H1 ∧ getCells H1 H.length 8 0 8 = some (setL noS) ∧ pfin a19 H [.agg (setA noS), .int .i64 e] H1 = (.tuple #[.agg (setA noS), .int .i64 e], H) := fun e => by
    refine ⟨HA.set H.length (.cells (setL noS) 46 8 .var), arr_put gA (setL_len _) (Nat.le_refl _) (setL_len _) (setL_cell _), arr_all (List.getElem?_set_self (by omega)) (setL_len _), pf_plain rfl (by rw [List.all_cons, setA_plain]; rfl)⟩
  unfold reachV
  by_cases h : chk G = 0
  · rw [if_neg (by simp [h])]
    have hG := good_of hs h
    by_cases h1 : f < 0
    · rw [if_pos (.inl h1)]
      obtain ⟨H1, n1, n2, n3⟩ := no 3
      obtain ⟨aG, cG, rfl⟩ := hgl
      exact f19_F_1 (w := setA noS) _ _ a1 h25 (by simp [h]) h1 bd39 (setL_len _) n1 n2 n3
    · by_cases h2 : (G.length : Int) ≤ f
      · rw [if_pos (.inr h2)]
        obtain ⟨H1, n1, n2, n3⟩ := no 3
        obtain ⟨aG, cG, rfl⟩ := hgl
        exact f19_F_2 (w := setA noS) _ _ a1 h25 (by simp [h]) h1 (by omega) bd39 (setL_len _) n1 n2 n3
      · rw [if_neg (by omega)]
        obtain ⟨v, rfl⟩ : ∃ v : Nat, f = v := ⟨f.toNat, by omega⟩
        have hv : v < G.length := by omega
        have h5 := hG.1
        have h38 := c38 (S := noS) (show v < 512 by omega) H.length HA
        obtain ⟨HB, hHB⟩ : ∃ HB, HB = HA ++ [AObj.cells (setL noS) 46 8 .var] := ⟨_, rfl⟩
        have lB : HB.length = H.length + 2 := by rw [hHB, List.length_append, List.length_singleton]; omega
        have sB : Stay none HA HB := by rw [hHB]; exact Stay.app none HA _
        have a2 := al39 HA
        rw [← hHB] at a2
        have gB : HB[HA.length]? = some (.cells (setL noS) 46 8 .var) := by rw [hHB]; exact append_get.1
        obtain ⟨HC, hHC⟩ : ∃ HC, HC = HB.set HA.length (.cells (setL (addS noS v)) 46 8 .var) := ⟨_, rfl⟩
        have sC : Stay (some HA.length) HB HC := by rw [hHC]; exact set_stay
        have lC : HC.length = HB.length := by rw [hHC]; simp
        have e1 : setCells HB H.length HA.length 8 0 (setL (addS noS v)) = some HC := by rw [hHC]; exact arr_put gB (setL_len _) (by omega) (setL_len _) (setL_cell _)
        have stC : Stay none H HC := (sA.trans sB).over sC (fun id e => by have := Option.some.inj e; omega)
        have gC : HC[HA.length]? = some (.cells (setL (addS noS v)) 46 8 .var) := by rw [hHC, List.getElem?_set_self (by omega)]
        have gC0 : HC[H.length]? = some (.cells (setL noS) 46 8 .var) := by rw [sC.2 _ (by omega) (fun e => by have := Option.some.inj e; omega), sB.2 _ (by omega) (by simp)]; exact gA
        obtain ⟨pm, M, HD, m1, m2, m3, m4, m5, m6⟩ := c39 hG H.length (hg.stay stC) hv
        have gD : HD[HA.length]? = some (.cells (setL (addS noS v)) 46 8 .var) := by rw [m5.2 _ (by omega) (by simp)]; exact gC
        have gD0 : HD[H.length]? = some (.cells (setL noS) 46 8 .var) := by rw [m5.2 _ (by omega) (by simp)]; exact gC0
        obtain ⟨T', HE, z1, z2, z3, z4⟩ := loop19 m3 (p4 := H.length) (H0 := H) (prot := prot) (show H.length ≤ HA.length by omega) (show HA.length ≠ pm by omega) (f := v) 512 0 (addS noS v) HD (by omega) (fun x hx => by unfold addS noS; simp) gD m2
        have gE0 : HE[H.length]? = some (.cells (setL noS) 46 8 .var) := by rw [z4.2 _ (List.getElem?_eq_some_iff.1 gD0).1 (fun e => by have := Option.some.inj e; omega)]; exact gD0
        have hT : setL T' = setL (rs G v) := setL_congr fun x hx => by
          rw [z2 x hx, Bool.eq_iff_iff, Bool.or_eq_true, decide_eq_true_eq, rs_iff, m4 x]
        rw [hT] at z3
        obtain ⟨HF, hHF⟩ : ∃ HF, HF = HE.set H.length (.cells (setL (rs G v)) 46 8 .var) := ⟨_, rfl⟩
        have e2 : setCells HE H.length H.length 8 0 (setL (rs G v)) = some HF := by rw [hHF]; exact arr_put gE0 (setL_len _) (Nat.le_refl _) (setL_len _) (setL_cell _)
        have gF : HF[H.length]? = some (.cells (setL (rs G v)) 46 8 .var) := by rw [hHF, List.getElem?_set_self (List.getElem?_eq_some_iff.1 gE0).1]
        rw [Int.toNat_natCast]
        obtain ⟨aG, cG, rfl⟩ := hgl
        exact f19_F_3 (x25 := setA noS) (x27 := setA (addS noS v)) (x42 := setA (rs G v)) (w := setA (rs G v)) _ _ a1 h25 (by simp [h]) h1 (by omega) bd39 h38 a2 (setL_len _) e1 m1 z1 (arr_all z3 (setL_len _)) (setL_len _) e2 (arr_all gF (setL_len _)) (pf_plain rfl (by rw [List.all_cons, setA_plain]; rfl))
  · rw [if_pos h]
    obtain ⟨H1, n1, n2, n3⟩ := no (chk G)
    obtain ⟨aG, cG, rfl⟩ := hgl
    exact f19_F_0 (w := setA noS) _ _ a1 h25 (by simpa using h) bd39 (setL_len _) n1 n2 n3
end Go.Proofs.YtkemihfaohkoeaaDoor.Am11d
set_option linter.unusedVariables false
open Go Go.Proofs.YtkemihfaohkoeaaDoor.Am
namespace Go.Proofs.YtkemihfaohkoeaaDoor.Am11d
end Go.Proofs.YtkemihfaohkoeaaDoor.Am11d
