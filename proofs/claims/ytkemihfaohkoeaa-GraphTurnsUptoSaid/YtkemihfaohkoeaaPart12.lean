/- A part of the proof of a given statement: AmGrid, AmRd2, AmStr, AmGrow, AmStk, AmArr, AmPw2, P11_25, P11_26, S11_A, S11_R, P11_39, P11_47, S11_B, P11_37, P11_36, P11_18, S11_C, S11_D, P11_45, P11_48, P11_49, P11_51, P11_54, P11_56, P11_57, P11_61, P11_65, P11_66, P11_67, P11_68, S11_Srt, AmOwnE, AmApart, P11_15, S11_X, P11_33, P11_34, S11_Tu, S11_Tv, AmSet, S11_E, P11_46, P11_50, P11_38, P11_20, S11_F, P11_19, S11_G, P11_43, S11_K, P11_32, P11_27, P11_35, S11_I, P11_10, P11_11, P11_12, S11_Tw, P11_17, S11_W, P11_9, P11_14, S11_J, S11_Y. No condition. -/
import Derived.Test.YtkemihfaohkoeaaPart11
import Derived.Deep.Matrix
namespace Go.Proofs.Ytkemihfaohkoeaa.Am
open Go Go.RowKit Go.ChangeShapes Go.WideShapes

/-- A row of memory that is only read: its cells may hold slices. -/
theorem Sim.roV {P : Program} {w0 w : World} {μ : PMap} {H : AHeap} (h : Sim P w0 μ H w) (hnw : ∀ (id : Nat) (o : AObj), H[id]? = some o → writable o = false) {vs : List Value} {e b off : Nat} (hb : b < w.heap.size) (hc : ∀ i v, vs[i]? = some v → ∃ x, w.cell? ⟨b, off + i, none⟩ = some x ∧ VRel μ v x) :
    Sim P w0 (ext1 μ H.length vs.length ⟨b, off, 0, true⟩) (H ++ [.cells vs e vs.length .ro]) w ∧ Sub μ (ext1 μ H.length vs.length ⟨b, off, 0, true⟩) := by
  have hf : ∀ L, μ H.length L = none := fun L => by
    cases hh : μ H.length L with
    | none => rfl
    | some m => have := (h.dom _ _ _ hh).1; omega
  have hsub : Sub μ (ext1 μ H.length vs.length ⟨b, off, 0, true⟩) := ext1_sub (hf _)
  have old : ∀ {id L m}, ext1 μ H.length vs.length ⟨b, off, 0, true⟩ id L = some m → (id = H.length ∧ L = vs.length ∧ m = ⟨b, off, 0, true⟩) ∨ (id ≠ H.length ∧ μ id L = some m) := by
    intro id L m hm
    unfold ext1 at hm
    split at hm
    · rename_i hc; cases hm; exact .inl ⟨hc.1, hc.2, rfl⟩
    · refine .inr ⟨fun e => ?_, hm⟩
      rw [e, hf] at hm
      cases hm
  have hget : ∀ {id o}, (H ++ [AObj.cells vs e vs.length .ro])[id]? = some o → (id < H.length ∧ H[id]? = some o) ∨ (id = H.length ∧ o = .cells vs e vs.length .ro) := by
    intro id o ho
    by_cases hid : id < H.length
    · rw [List.getElem?_append_left hid] at ho
      exact .inl ⟨hid, ho⟩
    · rw [List.getElem?_append_right (by omega)] at ho
      cases hh : id - H.length with
      | zero => rw [hh] at ho; simp only [List.getElem?_cons_zero, Option.some.injEq] at ho; exact .inr ⟨by omega, ho.symm⟩
      | succ k => rw [hh] at ho; simp at ho
  refine ⟨⟨h.below, fun id L m hm => ?_, fun id L m hm => ?_, fun id L m cs e' wr md hm hH => ?_, fun id o ho => ?_, fun id id' o o' L L' m m' hne ho ho' hw hl hl' hm hm' => ?_⟩, hsub⟩
  · rcases old hm with ⟨h1, h2, h3⟩ | ⟨h1, h2⟩
    · subst h3; exact ⟨by simp; omega, hb⟩
    · have := h.dom id L m h2; exact ⟨by simp; omega, this.2⟩
  · rcases old hm with ⟨h1, h2, h3⟩ | ⟨h1, h2⟩
    · rw [h1, append_get.1]; simp
    · have := (h.dom id L m h2).1
      rw [List.getElem?_append_left this]
      exact h.nohole id L m h2
  · rcases old hm with ⟨h1, h2, h3⟩ | ⟨h1, h2⟩
    · rw [h1, append_get.1] at hH
      cases hH
      omega
    · have := (h.dom id L m h2).1
      rw [List.getElem?_append_left this] at hH
      exact h.ver id L m cs e' wr md h2 hH
  · rcases hget ho with ⟨hid, ho⟩ | ⟨hid, rfl⟩
    · refine (h.ok id o ho).keep hsub (fun L => ?_) fun _ _ _ _ => rfl
      exact ext1_ne (fun hh => by omega)
    · subst hid
      refine ⟨Nat.le_refl _, ⟨_, ext1_at _ _ _ _⟩, fun L m h1 h2 h3 => ?_⟩
      rcases old h3 with ⟨_, h5, rfl⟩ | ⟨h4, _⟩
      · refine ⟨fun i x _ hx => ?_, fun hh => by cases hh⟩
        obtain ⟨y, hy1, hy2⟩ := hc i x hx
        exact ⟨y, hy1, hy2.mono hsub⟩
      · exact absurd rfl h4
  · rcases hget ho with ⟨hid, ho⟩ | ⟨hid, rfl⟩
    · rcases hget ho' with ⟨hid', ho'⟩ | ⟨hid', rfl⟩
      · rcases old hm with ⟨h1, _, _⟩ | ⟨_, hm⟩
        · omega
        · rcases old hm' with ⟨h1, _, _⟩ | ⟨_, hm'⟩
          · omega
          · exact h.sep id id' o o' L L' m m' hne ho ho' hw hl hl' hm hm'
      · rw [hnw id o ho] at hw; cases hw
    · cases hw


/-- A slice of any cells in an argument. -/
theorem ArgSt.sliceV {P : Program} {W : World} {μ : PMap} {H : AHeap} (h : ArgSt P W μ H) {e : Nat} {x : Addr} {len cap : Nat} (vs : List Value) (hsp : x.spot = none ∧ x.block < W.heap.size) (hlen : vs.length = len)
    (hc : ∀ i v, vs[i]? = some v → ∃ y, W.cell? (x.add i) = some y ∧ VRel μ v y) (hcap : len ≤ cap) :
    ∃ av H' μ', ArgSt P W μ' H' ∧ Sub μ μ' ∧ VRel μ' av (.slice (some x) len cap) ∧ Rd H' e 1 av len vs ∧ Stay none H H' := by
  obtain ⟨b, off, spot⟩ := x
  obtain ⟨h1, h2⟩ := hsp
  simp only at h1 h2
  subst h1
  obtain ⟨s1, s2⟩ := h.sim.roV h.ro (vs := vs) (e := e) (b := b) (off := off) h2 (fun i v hv => by
    have := hc i v hv
    unfold Addr.add at this
    split at this
    · rename_i hi; subst hi; exact this
    · exact this)
  refine ⟨.slice (some ⟨H.length, 0, some vs.length⟩) len len, _, _, ⟨s1, fun id o ho => ?_⟩, s2, ?_, ⟨by omega, .inr ⟨H.length, vs.length, vs.length, .ro, len, vs, rfl, Nat.le_refl _, Nat.le_refl _, by omega, append_get.1, by rw [List.take_of_length_le (by omega)]⟩⟩, Stay.app none H _⟩
  · by_cases hid : id < H.length
    · rw [List.getElem?_append_left hid] at ho
      exact h.ro id o ho
    · rw [List.getElem?_append_right (by omega)] at ho
      cases hh : id - H.length with
      | zero => rw [hh] at ho; simp only [List.getElem?_cons_zero, Option.some.injEq] at ho; subst ho; rfl
      | succ k => rw [hh] at ho; simp at ho
  · exact VRel.slice (μ := ext1 μ H.length vs.length ⟨b, off, 0, true⟩) H.length 0 vs.length len len cap ⟨b, off, 0, true⟩ (ext1_at _ _ _ _) hcap (fun _ hh => by cases hh)

/-- Where a cell is, there is a block. -/
theorem cell_here {w : World} {a : Addr} {v : Value} (h : w.cell? a = some v) : a.spot = none ∧ a.block < w.heap.size := by
  unfold World.cell? at h
  split at h
  · rename_i c t f hh
    split at h
    · cases h
    · rename_i hs
      refine ⟨by simpa using hs, (Array.getElem?_eq_some_iff.1 hh).1⟩
  · cases h

/-- Rows of numbers, one behind the other. -/
theorem ArgSt.rows {P : Program} {W : World} {q : Nat} (A : Nat → Option Addr) (L C : Nat → Nat) (Z : Nat → List Int) : ∀ (n : Nat) {μ : PMap} {H : AHeap}, ArgSt P W μ H →
    (∀ r, r < n → L r ≤ C r ∧ (Z r).length = C r ∧ (A r = none → C r = 0) ∧ ∀ a', A r = some a' → ∀ c, c < C r → W.cell? (a'.add c) = some (.int .i64 ((Z r).getD c 0))) →
    ∃ (cs : List Value) (H' : AHeap) (μ' : PMap), cs.length = n ∧ ArgSt P W μ' H' ∧ Sub μ μ' ∧ Stay none H H' ∧ ∀ r, r < n → ∃ v, cs[r]? = some v ∧ VRel μ' v (.slice (A r) (L r) (C r)) ∧ Rd H' q 1 v (L r) (((Z r).take (L r)).map (Value.int .i64))
  | 0, μ, H, h, _ => ⟨[], H, μ, rfl, h, Sub.refl μ, Stay.refl _ _, fun r hr => by omega⟩
  | n + 1, μ, H, h, hr => by
    obtain ⟨cs, H1, μ1, k1, k2, k3, k4, k5⟩ := ArgSt.rows (q := q) A L C Z n h (fun r hh => hr r (by omega))
    obtain ⟨f1, f2, f3, f4⟩ := hr n (by omega)
    have hone : ∃ v H2 μ2, ArgSt P W μ2 H2 ∧ Sub μ1 μ2 ∧ Stay none H1 H2 ∧ VRel μ2 v (.slice (A n) (L n) (C n)) ∧ Rd H2 q 1 v (L n) (((Z n).take (L n)).map (Value.int .i64)) := by
      by_cases hC : C n = 0
      · have hL : L n = 0 := by omega
        rw [hC, hL]
        cases hA : A n with
        | none => exact ⟨.slice none 0 0, H1, μ1, k2, Sub.refl _, Stay.refl _ _, .base _ rfl, ⟨rfl, .inl ⟨rfl, .inl rfl⟩⟩⟩
        | some a => exact ⟨emptySlice, H1, μ1, k2, Sub.refl _, Stay.refl _ _, .empty a, ⟨rfl, .inl ⟨rfl, .inr rfl⟩⟩⟩
      · obtain ⟨a, ha⟩ : ∃ a, A n = some a := by
          cases hA : A n with
          | none => exact absurd (f3 hA) hC
          | some a => exact ⟨a, rfl⟩
        have f5 := f4 a ha
        have h0 := f5 0 (by omega)
        have e0 : a.add 0 = a := by unfold Addr.add; simp
        rw [e0] at h0
        rw [ha]
        obtain ⟨av, H2, μ2, q1, q2, q3, q4, q5⟩ := k2.sliceV (e := q) (x := a) (len := L n) (cap := C n) (((Z n).take (L n)).map (Value.int .i64)) (cell_here h0) (by simp; omega) (fun i w hw => by
          simp only [List.getElem?_map, Option.map_eq_some_iff] at hw
          obtain ⟨z, hz, rfl⟩ := hw
          have hil : i < L n := by
            have := (List.getElem?_eq_some_iff.1 hz).1
            simp at this; omega
          rw [List.getElem?_take_of_lt hil] at hz
          refine ⟨_, f5 i (by omega), ?_⟩
          rw [List.getD_eq_getElem?_getD, hz]
          exact .base _ rfl) f1
        exact ⟨av, H2, μ2, q1, q2, q5, q3, q4⟩
    obtain ⟨v, H2, μ2, p1, p2, p3, p4, p5⟩ := hone
    refine ⟨cs ++ [v], H2, μ2, by simp [k1], p1, k3.trans p2, k4.trans p3, fun r hh => ?_⟩
    rcases Nat.lt_succ_iff_lt_or_eq.1 hh with hlt | rfl
    · obtain ⟨u, u1, u2, u3⟩ := k5 r hlt
      exact ⟨u, by rw [List.getElem?_append_left (by omega)]; exact u1, u2.mono p2, u3.stay p3⟩
    · exact ⟨v, by rw [List.getElem?_append_right (by omega), k1]; simp, p4, p5⟩

theorem cell_form {P : Program} {w : World} {r : Reach} {base : Nat} {t e : TypeId} {v : Value} (ht : P.underlying t = some (.slice e)) (h : Cell.okWide P w r base t v) : ∃ a n c, v = .slice a n c := by
  unfold Cell.okWide at h
  rw [ht] at h
  unfold Cell.ok at h
  rw [ht] at h
  cases v with
  | slice a n c => exact ⟨a, n, c, rfl⟩
  | _ => exact absurd h (by simp)

theorem weightsAll_mem {A : Type} {P : Program} {e : TypeId} : ∀ (l : List (DataW A)) (d : DataW A), d ∈ l → ∀ n ∈ d.weights P e, n ∈ DataW.weightsAll P e l
  | [], d, hd, _, _ => by cases hd
  | x :: r, d, hd, n, hn => by
    unfold DataW.weightsAll
    rw [List.mem_append]
    rcases List.mem_cons.1 hd with rfl | hd
    · exact .inl hn
    · exact .inr (weightsAll_mem r d hd n hn)

/-- Lists of numbers in an argument, with what bounds their sizes, and what they read as. -/
theorem ArgSt.gridU {P : Program} {W : World} {μ : PMap} {H : AHeap} (h : ArgSt P W μ H) {A : Type} {enc : TypeId × Value → A} {t e q : TypeId} {v : Value} {d : DataW A} {ps : List MemPlace} {base : Nat}
    (ht : P.underlying t = some (.slice e)) (he : P.underlying e = some (.slice q)) (hq : P.underlying q = some (.int .i64)) (ce : P.cellsOf e = 1) (cq : P.cellsOf q = 1)
    (hval : Value.okWide P W .any base t v) (hd : DataW.Trod enc P W 0 (fun _ => true) true t v d ps) :
    ∃ (G : List (List Int)) (av : Value) (H' : AHeap) (μ' : PMap), ArgSt P W μ' H' ∧ Sub μ μ' ∧ VRel μ' av v ∧ Stay none H H' ∧ (∃ cs, Rd H' e 1 av G.length cs ∧ ∀ (i : Nat) (l : List Int), G[i]? = some l → ∃ r, cs[i]? = some r ∧ Rd H' q 1 r l.length (l.map (Value.int .i64))) ∧
      (∀ M, (∀ n ∈ d.weights P t, n ≤ M) → G.length * P.bytesOf e ≤ M ∧ ∀ l ∈ G, l.length * P.bytesOf q ≤ M) ∧
      ((d = .nil ∧ G = []) ∨ ∃ (Ar : Nat → Option Addr) (L : Nat → Nat) (Z : Nat → List Int) (n : Nat) (sp : List (DataW A)), d = .slice ((List.range n).map fun r => Go.Deep.intRow .i64 (Ar r) (L r) (Z r)) sp ∧ G = (List.range n).map (fun r => (Z r).take (L r)) ∧ ∀ r, r < n → Ar r = none → L r = 0) := by
  obtain ⟨fuel, hd⟩ := hd
  have hcell : Cell.okWide P W .any base t v := by
    unfold Value.okWide at hval
    rw [ht] at hval
    exact hval
  rcases Go.Deep.open_int_rows ht he hq ce cq hd with ⟨hh, hdn⟩ | ⟨a, len, cap, Ar, L, C, Z, hh, _, hlc, _, hx, hrow⟩
  · have hv : v = .slice none 0 0 := by
      obtain ⟨x, n, c, rfl⟩ := cell_form ht hcell
      simpa [Value.cells] using hh
    subst hv
    exact ⟨[], .slice none 0 0, H, μ, h, Sub.refl μ, .base _ rfl, Stay.refl _ _, ⟨[], ⟨rfl, .inl ⟨rfl, .inl rfl⟩⟩, fun i l hl => by simp at hl⟩, fun M _ => ⟨by simp, by simp⟩, .inl ⟨by simp only [Prod.mk.injEq] at hdn; exact hdn.1, rfl⟩⟩
  · have hv : v = .slice (some a) len cap := by
      obtain ⟨x, n, c, rfl⟩ := cell_form ht hcell
      simpa [Value.cells] using hh
    subst hv
    obtain ⟨g1, g2⟩ := cell_slice ht hcell
    obtain ⟨cs, H1, μ1, k1, k2, k3, k4, k5⟩ := ArgSt.rows (q := q) Ar L C Z len h (fun r hr => by
      obtain ⟨_, r2, _, r4, _, r6, r7⟩ := hrow r (by omega)
      exact ⟨r2, r4, r6, fun a' ha' => (r7 a' ha').2⟩)
    obtain ⟨av, H2, μ2, q1, q2, q3, q4, q5⟩ := k2.sliceV (e := e) (x := a) (len := len) (cap := cap) cs ⟨g1, g2⟩ k1 (fun i w hw => by
      have hi : i < len := by
        have := (List.getElem?_eq_some_iff.1 hw).1
        omega
      obtain ⟨u, u1, u2, _⟩ := k5 i hi
      rw [u1] at hw
      cases hw
      exact ⟨_, (hrow i (by omega)).1, u2⟩) hlc
    have hG : ((List.range len).map fun r => (Z r).take (L r)).length = len := by simp
    refine ⟨(List.range len).map fun r => (Z r).take (L r), av, H2, μ2, q1, k3.trans q2, q3, k4.trans q5, ⟨cs, by rw [hG]; exact q4, fun i l hl => ?_⟩, fun M hM => ?_, .inr ⟨Ar, L, Z, len, _, by simp only [Prod.mk.injEq] at hx; exact hx.1, rfl, fun r hr hA => ?_⟩⟩
    · rw [List.getElem?_map, Option.map_eq_some_iff] at hl
      obtain ⟨r, hr, rfl⟩ := hl
      have hi : i < len := by
        have := (List.getElem?_eq_some_iff.1 hr).1
        simpa using this
      rw [List.getElem?_range hi] at hr
      cases hr
      obtain ⟨u, u1, _, u3⟩ := k5 i hi
      obtain ⟨_, r2, _, r4, _⟩ := hrow i (by omega)
      refine ⟨u, u1, ?_⟩
      rw [show ((Z i).take (L i)).length = L i by simp; omega]
      exact u3.stay q5
    · simp only [Prod.mk.injEq] at hx
      rw [hx.1] at hM
      have e1 : ∀ n, n ∈ (DataW.slice ((List.range len).map fun r => Go.Deep.intRow (H := A) .i64 (Ar r) (L r) (Z r)) ((List.range (cap - len)).map fun j => Go.Deep.intRow .i64 (Ar (len + j)) (L (len + j)) (Z (len + j)))).weights P t ↔
          n = (len + (cap - len)) * P.bytesOf e ∨ n ∈ DataW.weightsAll P e ((List.range len).map fun r => Go.Deep.intRow (H := A) .i64 (Ar r) (L r) (Z r)) ∨ n ∈ DataW.weightsAll P e ((List.range (cap - len)).map fun j => Go.Deep.intRow (H := A) .i64 (Ar (len + j)) (L (len + j)) (Z (len + j))) := by
        intro n
        simp only [DataW.weights, ht, List.length_map, List.length_range, List.mem_cons, List.mem_append]
      refine ⟨?_, fun l hl => ?_⟩
      · have hm := hM _ ((e1 _).2 (.inl rfl))
        rw [hG]
        have := Nat.mul_le_mul_right (P.bytesOf e) (show len ≤ len + (cap - len) by omega)
        omega
      · obtain ⟨r, hr, rfl⟩ := List.mem_map.1 hl
        have hi : r < len := List.mem_range.1 hr
        obtain ⟨_, r2, _, r4, _, r6, _⟩ := hrow r (by omega)
        cases hA : Ar r with
        | none =>
          have : L r = 0 := by have := r6 hA; omega
          simp [this]
        | some a' =>
          have hm := hM (((Z r).take (L r)).length * P.bytesOf q + ((Z r).drop (L r)).length * P.bytesOf q) ((e1 _).2 (.inr (.inl (weightsAll_mem _ (Go.Deep.intRow .i64 (Ar r) (L r) (Z r)) (List.mem_map.2 ⟨r, hr, rfl⟩) _ (by
            rw [hA]
            simp [Go.Deep.intRow, DataW.weights, he, lits, Nat.add_mul])))))
          omega
    · obtain ⟨_, r2, _, r4, _, r6, _⟩ := hrow r (by omega)
      have := r6 hA
      omega
end Go.Proofs.Ytkemihfaohkoeaa.Am
namespace Go.Proofs.Ytkemihfaohkoeaa.Am
open Go

theorem rep_map {α : Type} (f : α → Value) (a : α) : ∀ n, repCells [f a] n = (List.replicate n a).map f
  | 0 => rfl
  | n + 1 => by
    unfold repCells
    rw [rep_map f a n, List.replicate_succ]
    rfl

end Go.Proofs.Ytkemihfaohkoeaa.Am
namespace Go.Proofs.Ytkemihfaohkoeaa.Am
open Go

/-- The text of some byte codes. -/
def bstr (l : List Nat) : ByteArray := ⟨(l.map fun n => UInt8.ofNat n).toArray⟩
/-- A word, given by its letters. -/
def lw (w : List Nat) : ByteArray := bstr (w.map (97 + ·))
/-- A list is copied behind nothing. -/
theorem own_grow {P : Program} {t e s by_ : Nat} (T : ElemT P t e s by_) {H : AHeap} {x y : Value} (hx : x = .slice none 0 0 ∨ x = emptySlice) {n : Nat} {cs : List Value} (hy : Rd H e s y n cs) (hc : cs.all isCell = true) {prot : Nat} {room : Bool} (hroom : n * by_ ≤ 140737488355328) :
    ∃ a c o H', aappend P prot room t t x y H = some (.slice a n c, H') ∧ Own H' e s (.slice a n c) o n cs ∧ Stay none H H' ∧ (∀ id, o = some id → H.length ≤ id) ∧ (0 < n → o = some H.length) := by
  obtain ⟨z, hz, hzl⟩ := T.ze
  have hsrc := rd_src (s := s) T.un hy
  have hlen := hy.1
  have hs := T.s0
  have hb := T.b0
  have key : ∀ r, (match x with
      | .slice none 0 0 => if n = 0 then some (.slice none 0 0, H) else if n * by_ ≤ 140737488355328 then some (sliceTo H (n * s) n, newObj H cs e) else none
      | .slice (some ⟨0, 0, none⟩) 0 0 => if n = 0 then some (emptySlice, H) else if n * by_ ≤ 140737488355328 then some (sliceTo H (n * s) n, newObj H cs e) else none
      | _ => none) = some r → aappend P prot room t t x y H = some r := fun r hr => by
    unfold aappend
    rw [T.sl]
    simp only [Option.bind_some]
    rw [T.sz]
    simp only [Option.bind_some]
    rw [T.bt]
    simp only [Option.bind_some]
    rw [hz]
    simp only [Option.bind_some]
    rw [if_pos ⟨trivial, hs, hb, hzl⟩, hsrc]
    simp only [Option.bind_some]
    rw [if_pos ⟨hlen, hc⟩]
    rcases hx with rfl | rfl
    · exact hr
    · exact hr
  by_cases hn : n = 0
  · subst hn
    have hcs : cs = [] := List.length_eq_zero_iff.1 (by omega)
    subst hcs
    rcases hx with rfl | rfl
    · exact ⟨_, _, none, H, key _ rfl, own_nil, Stay.refl _ _, fun id h => (by cases h), fun h => (by omega)⟩
    · exact ⟨_, _, none, H, key _ rfl, ⟨by simp, rfl, .inr rfl⟩, Stay.refl _ _, fun id h => (by cases h), fun h => (by omega)⟩
  · refine ⟨_, _, some H.length, _, key (sliceTo H (n * s) n, newObj H cs e) ?_, own_new hlen (by omega) (by rw [hlen]) rfl, Stay.app none H _, fun id h => by cases h; exact Nat.le_refl _, fun _ => rfl⟩
    rcases hx with rfl | rfl
    · simp only
      rw [if_neg hn, if_pos hroom]
    · simp only [emptySlice]
      rw [if_neg hn, if_pos hroom]
end Go.Proofs.Ytkemihfaohkoeaa.Am
namespace Go.Proofs.Ytkemihfaohkoeaa.Am
open Go

theorem grow_eq {P : Program} {t e s by_ : Nat} (T : ElemT P t e s by_) {H : AHeap} {x y : Value} (hx : x = .slice none 0 0 ∨ x = emptySlice) {n : Nat} {cs : List Value} (hy : Rd H e s y n cs) (hc : cs.all isCell = true) {prot : Nat} {room : Bool} (hroom : n * by_ ≤ 140737488355328) :
    aappend P prot room t t x y H = some (if n = 0 then (x, H) else (sliceTo H (n * s) n, newObj H cs e)) := by
  obtain ⟨z, hz, hzl⟩ := T.ze
  have hsrc := rd_src (s := s) T.un hy
  have hlen := hy.1
  have hs := T.s0
  have hb := T.b0
  unfold aappend
  rw [T.sl]
  simp only [Option.bind_some]
  rw [T.sz]
  simp only [Option.bind_some]
  rw [T.bt]
  simp only [Option.bind_some]
  rw [hz]
  simp only [Option.bind_some]
  rw [if_pos ⟨trivial, hs, hb, hzl⟩, hsrc]
  simp only [Option.bind_some]
  rw [if_pos ⟨hlen, hc⟩]
  by_cases hn : n = 0
  · rcases hx with rfl | rfl
    · simp only [if_pos hn]
    · simp only [emptySlice, if_pos hn]
  · rcases hx with rfl | rfl
    · simp only [if_neg hn, if_pos hroom]
    · simp only [emptySlice, if_neg hn, if_pos hroom]

/-- A list behind a list of this function's own. -/
theorem own_appR {P : Program} {t e s by_ : Nat} (T : ElemT P t e s by_) {H : AHeap} {x y : Value} {o : Option Nat} {n m : Nat} {cs ds : List Value} (h : Own H e s x o n cs) (hy : Rd H e s y m ds) (hm : 0 < m) (hc : ds.all isCell = true) {prot : Nat} {room : Bool}
    (hp : ∀ id, o = some id → prot ≤ id) (hroom : (n + m) * by_ ≤ 140737488355328) :
    ∃ o' H', aappend P prot room t t x y H = some (.slice (some ⟨o', 0, some ((n + m) * s)⟩) (n + m) (n + m), H') ∧ Own H' e s (.slice (some ⟨o', 0, some ((n + m) * s)⟩) (n + m) (n + m)) (some o') (n + m) (cs ++ ds) ∧ Stay o H H' ∧ (∀ id, o = some id → o' = id) ∧ (o = none → o' = H.length) := by
  have hlen := h.1
  have h2 := h.2
  have hyl := hy.1
  cases o with
  | none =>
    obtain ⟨rfl, hx⟩ := h2
    have hcs : cs = [] := List.length_eq_zero_iff.1 (by omega)
    subst hcs
    have := grow_eq T hx hy hc (prot := prot) (room := room) (by simpa using hroom)
    rw [if_neg (by omega)] at this
    refine ⟨H.length, _, by rw [Nat.zero_add]; exact this, ?_, Stay.app none H _, fun id h => (by cases h), fun _ => rfl⟩
    rw [Nat.zero_add, List.nil_append]
    exact own_new hyl hm hyl.symm rfl
  | some id =>
    obtain ⟨hn, rfl, wr, hwr, hH⟩ := h2
    obtain ⟨z, hz, hzl⟩ := T.ze
    have hsrc := rd_src (s := s) T.un hy
    have hs := T.s0
    have hb := T.b0
    have hl2 : (cs ++ ds).length = (n + m) * s := by rw [List.length_append, hlen, hyl, Nat.add_mul]
    refine ⟨id, H.set id (.cells (cs ++ ds) e wr .row), ?_, ⟨hl2, by omega, by rw [hl2], wr, by rw [List.length_append]; omega, List.getElem?_set_self (List.getElem?_eq_some_iff.1 hH).1⟩, ⟨by simp, fun q _ hq => List.getElem?_set_ne (fun e => hq (by rw [e]))⟩, fun id' h => by cases h; rfl, fun h => by cases h⟩
    unfold aappend
    rw [T.sl]
    simp only [Option.bind_some]
    rw [T.sz]
    simp only [Option.bind_some]
    rw [T.bt]
    simp only [Option.bind_some]
    rw [hz]
    simp only [Option.bind_some]
    rw [if_pos ⟨trivial, hs, hb, hzl⟩, hsrc]
    simp only [Option.bind_some]
    rw [if_pos ⟨hyl, hc⟩, if_neg (by omega), if_neg (by omega), hH]
    simp only
    have hpi := hp id rfl
    rw [if_pos (by refine ⟨?_, hpi, ?_, ?_, ?_, hlen.symm, hroom⟩ <;> first | trivial | rfl)]

end Go.Proofs.Ytkemihfaohkoeaa.Am
namespace Go.Proofs.Ytkemihfaohkoeaa.Am
open Go
end Go.Proofs.Ytkemihfaohkoeaa.Am
namespace Go.Proofs.Ytkemihfaohkoeaa.Am
open Go

/-- A list of one's own that grows and shrinks at its end: nil, or the beginning of a row. -/
def Stk (H : AHeap) (e : Nat) (x : Value) (o : Option Nat) (n : Nat) (cs : List Value) : Prop :=
  cs.length = n ∧
  match o with
  | none => n = 0 ∧ x = .slice none 0 0
  | some id => ∃ all wr, x = .slice (some ⟨id, 0, some all.length⟩) n all.length ∧ n ≤ all.length ∧ wr ≤ all.length ∧ 0 < all.length ∧ H[id]? = some (.cells all e wr .row) ∧ cs = all.take n

theorem Stk.rd {H : AHeap} {e : Nat} {x : Value} {o : Option Nat} {n : Nat} {cs : List Value} (h : Stk H e x o n cs) : Rd H e 1 x n cs := by
  obtain ⟨h1, h2⟩ := h
  refine ⟨by rw [h1, Nat.mul_one], ?_⟩
  cases o with
  | none => exact .inl ⟨h2.1, .inl h2.2⟩
  | some id =>
    obtain ⟨all, wr, rfl, hn, hwr, _, hH, rfl⟩ := h2
    exact .inr ⟨id, all.length, wr, .row, all.length, all, rfl, hwr, Nat.le_refl _, by omega, hH, by rw [Nat.mul_one]⟩
theorem Stk.len {H : AHeap} {e : Nat} {x : Value} {o : Option Nat} {n : Nat} {cs : List Value} (h : Stk H e x o n cs) : ∃ a c, x = .slice a n c := h.rd.len
theorem Stk.stay {H H' : AHeap} {e : Nat} {x : Value} {o o' : Option Nat} {n : Nat} {cs : List Value} (h : Stk H e x o n cs) (k : Stay o' H H') (hne : ∀ id, o = some id → o' ≠ some id) : Stk H' e x o n cs := by
  obtain ⟨h1, h2⟩ := h
  refine ⟨h1, ?_⟩
  cases o with
  | none => exact h2
  | some id =>
    obtain ⟨all, wr, a, b, c, d, f, g⟩ := h2
    exact ⟨all, wr, a, b, c, d, by rw [k.2 id (List.getElem?_eq_some_iff.1 f).1 (hne id rfl)]; exact f, g⟩
theorem Stk.lt {H : AHeap} {e : Nat} {x : Value} {id n : Nat} {cs : List Value} (h : Stk H e x (some id) n cs) : id < H.length := by
  obtain ⟨_, all, wr, _, _, _, _, hH, _⟩ := h
  exact (List.getElem?_eq_some_iff.1 hH).1
/-- A list of letters as a text. -/
def lcs (w : List Nat) : List Value := w.map fun c => .int .u8 ((97 + c : Nat) : Int)
end Go.Proofs.Ytkemihfaohkoeaa.Am
namespace Go.Proofs.Ytkemihfaohkoeaa.Am
open Go
/-- An array in a variable: a part is read, is written; all of it. -/
theorem arr_get {H : AHeap} {p e n : Nat} {L : List Value} {md : OMode} (h : H[p]? = some (.cells L e n md)) (hl : L.length = n) {i : Nat} {v : Value} (hv : L[i]? = some v) : getCells H p n (0 + i * 1) 1 = some [v] := by
  have hi := (List.getElem?_eq_some_iff.1 hv).1
  unfold getCells
  rw [h]
  simp only
  rw [if_pos ⟨Nat.le_refl _, by omega, by omega⟩, Nat.mul_one, Nat.zero_add, List.drop_eq_getElem_cons hi]
  rw [List.getElem?_eq_getElem hi] at hv
  simp [Option.some.inj hv]
theorem set_stay {H : AHeap} {p : Nat} {o : AObj} : Stay (some p) H (H.set p o) := ⟨by simp, fun q _ hq => List.getElem?_set_ne (fun e => hq (by rw [e]))⟩
end Go.Proofs.Ytkemihfaohkoeaa.Am
namespace Go.Proofs.Ytkemihfaohkoeaa.Am
open Go
abbrev vo (cs : List Value) (e : TypeId) : AObj := .cells cs e cs.length .var
abbrev wo (cs : List Value) (e : TypeId) : AObj := .cells cs e cs.length .row
theorem ai {a b : Prop} (h : a) (k : b) : a ∧ b := ⟨h, k⟩
theorem lp_of2 {C : Cfg} {fn : AFunc} {i prot : Nat} {H0 : AHeap} {s : LS} (hs : List Hint) {r : LS ⊕ LO} {c : Prop} (h : c) (e : c = plp C fn i prot H0 s hs r) : lpOf C fn i prot H0 s = some r := loop_of hs (e.mp h)
theorem fn_of2 {C : Cfg} {f : FuncId} (fn : AFunc) {args : List Value} {prot : Nat} {H : AHeap} (hs : List Hint) {v : Value} {H' : AHeap} {c : Prop} (h : c) (e : c = pcall C fn args prot H hs v H')
    (hf : C.code f = some fn) (hm : fn.memo = none := by rfl) : callInf C f args prot H = some (v, H') := call_of hf hm hs (e.mp h)
end Go.Proofs.Ytkemihfaohkoeaa.Am
set_option linter.unusedVariables false
open Go Go.Proofs.Ytkemihfaohkoeaa.Am
namespace Go.Proofs.Ytkemihfaohkoeaa.Am11
theorem f25_F_0 {x0a : Option Addr} {x0n x0c : Nat} {H : AHeap} {prot : Nat} (h1 : (↑x0n : Int) > 512) : callInf cfg 25 [.slice x0a x0n x0c] prot H = some (Value.int .i64 6, H) :=
  fn_of2 a25 [.e, .e, .b true] (ai (decide_eq_true h1) (Eq.refl ((Value.int .i64 6, H) : Value × AHeap))) (by kernel_rfl) rfl
theorem f25_F_1 {x0a : Option Addr} {x0n x0c : Nat} {H : AHeap} {prot : Nat} {z2 : Value} {H1 : AHeap} (h1 : ¬((↑x0n : Int) > 512)) (h2 : lpInf (lpOf cfg a25 0 prot H) ([Value.slice x0a x0n x0c, Value.slice x0a x0n x0c, Value.int .i64 (↑x0n : Int), Value.int .i64 0], H) = some (Ex.exit 0, [z2], H1)) : callInf cfg 25 [.slice x0a x0n x0c] prot H = some (Value.int .i64 0, H) :=
  fn_of2 a25 [.e, .e, .b false, .e, .lo (.exit 0, [z2], H1)] (ai (decide_eq_false h1) (ai h2 (Eq.refl ((Value.int .i64 0, H) : Value × AHeap)))) (by kernel_rfl) rfl
theorem f25_F_2 {x0a : Option Addr} {x0n x0c : Nat} {H : AHeap} {prot : Nat} {z2 : Int} {H1 : AHeap} (h1 : ¬((↑x0n : Int) > 512)) (h2 : lpInf (lpOf cfg a25 0 prot H) ([Value.slice x0a x0n x0c, Value.slice x0a x0n x0c, Value.int .i64 (↑x0n : Int), Value.int .i64 0], H) = some (Ex.ret, [Value.int .i64 z2], H1)) : callInf cfg 25 [.slice x0a x0n x0c] prot H = some (Value.int .i64 z2, H) :=
  fn_of2 a25 [.e, .e, .b false, .e, .lo (.ret, [.int .i64 z2], H1)] (ai (decide_eq_false h1) (ai h2 (Eq.refl ((Value.int .i64 z2, H) : Value × AHeap)))) (by kernel_rfl) rfl
theorem f25_L0_0 {x0a : Option Addr} {x0n x0c : Nat} {x10a : Option Addr} {x10n x10c : Nat} {x11 x12 : Int} {H0 : AHeap} {prot : Nat} {H : AHeap} {x14p x14o x14l : Nat} {x15a : Option Addr} {x15n x15c : Nat} {z0a : Option Addr} {z0n z0c : Nat} {z2 : Value} {z10a : Option Addr} {z10n z10c : Nat} {z11 z12 : Int} {H2 : AHeap} (h1 : x12 < x11) (h2 : aindexAddr cfg.P 22 (Value.slice x10a x10n x10c) (Value.int .i64 x12) = some (Value.pointer (some ⟨x14p, x14o, some x14l⟩))) (h3 : getCells H x14p x14l x14o 1 = some [Value.slice x15a x15n x15c]) (h4 : lpInf (lpOf cfg a25 1 prot H0) ([Value.slice x0a x0n x0c, Value.slice x10a x10n x10c, Value.int .i64 x11, Value.int .i64 x12, Value.slice x15a x15n x15c, Value.int .i64 (↑x15n : Int), Value.int .i64 0], H) = some (Ex.exit 2, [Value.slice z0a z0n z0c, z2, Value.slice z10a z10n z10c, Value.int .i64 z11, Value.int .i64 z12], H2)) (h5 : Fit .i64 (z12 + 1)) : lpOf cfg a25 0 prot H0 ([.slice x0a x0n x0c, .slice x10a x10n x10c, .int .i64 x11, .int .i64 x12], H) = some (Sum.inl ([Value.slice z0a z0n z0c, Value.slice z10a z10n z10c, Value.int .i64 z11, Value.int .i64 (z12 + 1)], H2)) :=
  lp_of2 [.e, .b true, .v (.pointer (some ⟨x14p, x14o, some x14l⟩)), .v (.slice x15a x15n x15c), .e, .lo (.exit 2, [.slice z0a z0n z0c, z2, .slice z10a z10n z10c, .int .i64 z11, .int .i64 z12], H2), .e] (ai (decide_eq_true h1) (ai h2 (ai h3 (ai h4 (ai h5 (Eq.refl (Sum.inl ([Value.slice z0a z0n z0c, Value.slice z10a z10n z10c, Value.int .i64 z11, Value.int .i64 (z12 + 1)], H2) : LS ⊕ LO))))))) (by kernel_rfl)
theorem f25_L0_1 {x0a : Option Addr} {x0n x0c : Nat} {x10a : Option Addr} {x10n x10c : Nat} {x11 x12 : Int} {H0 : AHeap} {prot : Nat} {H : AHeap} {x14p x14o x14l : Nat} {x15a : Option Addr} {x15n x15c : Nat} {z0 : Value} {z2 : Int} {z10 z11 z12 : Value} {H2 : AHeap} (h1 : x12 < x11) (h2 : aindexAddr cfg.P 22 (Value.slice x10a x10n x10c) (Value.int .i64 x12) = some (Value.pointer (some ⟨x14p, x14o, some x14l⟩))) (h3 : getCells H x14p x14l x14o 1 = some [Value.slice x15a x15n x15c]) (h4 : lpInf (lpOf cfg a25 1 prot H0) ([Value.slice x0a x0n x0c, Value.slice x10a x10n x10c, Value.int .i64 x11, Value.int .i64 x12, Value.slice x15a x15n x15c, Value.int .i64 (↑x15n : Int), Value.int .i64 0], H) = some (Ex.ret, [z0, Value.int .i64 z2, z10, z11, z12], H2)) : lpOf cfg a25 0 prot H0 ([.slice x0a x0n x0c, .slice x10a x10n x10c, .int .i64 x11, .int .i64 x12], H) = some (Sum.inr (Ex.ret, [Value.int .i64 z2], H2)) :=
  lp_of2 [.e, .b true, .v (.pointer (some ⟨x14p, x14o, some x14l⟩)), .v (.slice x15a x15n x15c), .e, .lo (.ret, [z0, .int .i64 z2, z10, z11, z12], H2)] (ai (decide_eq_true h1) (ai h2 (ai h3 (ai h4 (Eq.refl (Sum.inr (Ex.ret, [Value.int .i64 z2], H2) : LS ⊕ LO)))))) (by kernel_rfl)
theorem f25_L0_2 {x0a : Option Addr} {x0n x0c : Nat} {x10a : Option Addr} {x10n x10c : Nat} {x11 x12 : Int} {H0 : AHeap} {prot : Nat} {H : AHeap} (h1 : ¬(x12 < x11)) : lpOf cfg a25 0 prot H0 ([.slice x0a x0n x0c, .slice x10a x10n x10c, .int .i64 x11, .int .i64 x12], H) = some (Sum.inr (Ex.exit 0, [Value.tuple { toList := [] }], H)) :=
  lp_of2 [.e, .b false] (ai (decide_eq_false h1) (Eq.refl (Sum.inr (Ex.exit 0, [Value.tuple { toList := [] }], H) : LS ⊕ LO))) (by kernel_rfl)
theorem f25_L1_0 {x0a : Option Addr} {x0n x0c : Nat} {x10a : Option Addr} {x10n x10c : Nat} {x11 x12 : Int} {x16a : Option Addr} {x16n x16c : Nat} {x17 x18 : Int} {H0 : AHeap} {prot : Nat} {H : AHeap} {x20p x20o x20l : Nat} {x21 : Int} (h1 : x18 < x17) (h2 : aindexAddr cfg.P 34 (Value.slice x16a x16n x16c) (Value.int .i64 x18) = some (Value.pointer (some ⟨x20p, x20o, some x20l⟩))) (h3 : getCells H x20p x20l x20o 1 = some [Value.int .i64 x21]) (h4 : x21 < 0) : lpOf cfg a25 1 prot H0 ([.slice x0a x0n x0c, .slice x10a x10n x10c, .int .i64 x11, .int .i64 x12, .slice x16a x16n x16c, .int .i64 x17, .int .i64 x18], H) = some (Sum.inr (Ex.ret, [Value.slice x0a x0n x0c, Value.int .i64 11, Value.slice x10a x10n x10c, Value.int .i64 x11, Value.int .i64 x12], H)) :=
  lp_of2 [.e, .b true, .v (.pointer (some ⟨x20p, x20o, some x20l⟩)), .v (.int .i64 x21), .e, .b true, .b true, .b true, .b true, .b true, .b true] (ai (decide_eq_true h1) (ai h2 (ai h3 (ai (decide_eq_true h4) (ai (decide_eq_true h4) (ai (decide_eq_true h4) (ai (decide_eq_true h4) (ai (decide_eq_true h4) (ai (Eq.refl true) (Eq.refl (Sum.inr (Ex.ret, [Value.slice x0a x0n x0c, Value.int .i64 11, Value.slice x10a x10n x10c, Value.int .i64 x11, Value.int .i64 x12], H) : LS ⊕ LO))))))))))) (by kernel_rfl)
theorem f25_L1_1 {x0a : Option Addr} {x0n x0c : Nat} {x10a : Option Addr} {x10n x10c : Nat} {x11 x12 : Int} {x16a : Option Addr} {x16n x16c : Nat} {x17 x18 : Int} {H0 : AHeap} {prot : Nat} {H : AHeap} {x20p x20o x20l : Nat} {x21 : Int} (h1 : x18 < x17) (h2 : aindexAddr cfg.P 34 (Value.slice x16a x16n x16c) (Value.int .i64 x18) = some (Value.pointer (some ⟨x20p, x20o, some x20l⟩))) (h3 : getCells H x20p x20l x20o 1 = some [Value.int .i64 x21]) (h4 : ¬(x21 < 0)) (h5 : x21 ≥ (↑x0n : Int)) : lpOf cfg a25 1 prot H0 ([.slice x0a x0n x0c, .slice x10a x10n x10c, .int .i64 x11, .int .i64 x12, .slice x16a x16n x16c, .int .i64 x17, .int .i64 x18], H) = some (Sum.inr (Ex.ret, [Value.slice x0a x0n x0c, Value.int .i64 11, Value.slice x10a x10n x10c, Value.int .i64 x11, Value.int .i64 x12], H)) :=
  lp_of2 [.e, .b true, .v (.pointer (some ⟨x20p, x20o, some x20l⟩)), .v (.int .i64 x21), .e, .b false, .b false, .b false, .e, .b false, .e, .b false, .b true] (ai (decide_eq_true h1) (ai h2 (ai h3 (ai (decide_eq_false h4) (ai (decide_eq_false h4) (ai (decide_eq_false h4) (ai (decide_eq_false h4) (ai (decide_eq_false h4) (ai (decide_eq_true h5) (Eq.refl (Sum.inr (Ex.ret, [Value.slice x0a x0n x0c, Value.int .i64 11, Value.slice x10a x10n x10c, Value.int .i64 x11, Value.int .i64 x12], H) : LS ⊕ LO))))))))))) (by kernel_rfl)
theorem f25_L1_2 {x0a : Option Addr} {x0n x0c : Nat} {x10a : Option Addr} {x10n x10c : Nat} {x11 x12 : Int} {x16a : Option Addr} {x16n x16c : Nat} {x17 x18 : Int} {H0 : AHeap} {prot : Nat} {H : AHeap} {x20p x20o x20l : Nat} {x21 : Int} (h1 : x18 < x17) (h2 : aindexAddr cfg.P 34 (Value.slice x16a x16n x16c) (Value.int .i64 x18) = some (Value.pointer (some ⟨x20p, x20o, some x20l⟩))) (h3 : getCells H x20p x20l x20o 1 = some [Value.int .i64 x21]) (h4 : ¬(x21 < 0)) (h5 : ¬(x21 ≥ (↑x0n : Int))) (h6 : Fit .i64 (x18 + 1)) : lpOf cfg a25 1 prot H0 ([.slice x0a x0n x0c, .slice x10a x10n x10c, .int .i64 x11, .int .i64 x12, .slice x16a x16n x16c, .int .i64 x17, .int .i64 x18], H) = some (Sum.inl ([Value.slice x0a x0n x0c, Value.slice x10a x10n x10c, Value.int .i64 x11, Value.int .i64 x12, Value.slice x16a x16n x16c, Value.int .i64 x17, Value.int .i64 (x18 + 1)], H)) :=
  lp_of2 [.e, .b true, .v (.pointer (some ⟨x20p, x20o, some x20l⟩)), .v (.int .i64 x21), .e, .b false, .b false, .b false, .e, .b false, .e, .b false, .b false, .e] (ai (decide_eq_true h1) (ai h2 (ai h3 (ai (decide_eq_false h4) (ai (decide_eq_false h4) (ai (decide_eq_false h4) (ai (decide_eq_false h4) (ai (decide_eq_false h4) (ai (decide_eq_false h5) (ai h6 (Eq.refl (Sum.inl ([Value.slice x0a x0n x0c, Value.slice x10a x10n x10c, Value.int .i64 x11, Value.int .i64 x12, Value.slice x16a x16n x16c, Value.int .i64 x17, Value.int .i64 (x18 + 1)], H) : LS ⊕ LO)))))))))))) (by kernel_rfl)
theorem f25_L1_3 {x0a : Option Addr} {x0n x0c : Nat} {x10a : Option Addr} {x10n x10c : Nat} {x11 x12 : Int} {x16a : Option Addr} {x16n x16c : Nat} {x17 x18 : Int} {H0 : AHeap} {prot : Nat} {H : AHeap} (h1 : ¬(x18 < x17)) : lpOf cfg a25 1 prot H0 ([.slice x0a x0n x0c, .slice x10a x10n x10c, .int .i64 x11, .int .i64 x12, .slice x16a x16n x16c, .int .i64 x17, .int .i64 x18], H) = some (Sum.inr (Ex.exit 2, [Value.slice x0a x0n x0c, Value.tuple { toList := [] }, Value.slice x10a x10n x10c, Value.int .i64 x11, Value.int .i64 x12], H)) :=
  lp_of2 [.e, .b false] (ai (decide_eq_false h1) (Eq.refl (Sum.inr (Ex.exit 2, [Value.slice x0a x0n x0c, Value.tuple { toList := [] }, Value.slice x10a x10n x10c, Value.int .i64 x11, Value.int .i64 x12], H) : LS ⊕ LO))) (by kernel_rfl)
end Go.Proofs.Ytkemihfaohkoeaa.Am11
set_option linter.unusedVariables false
open Go Go.Proofs.Ytkemihfaohkoeaa.Am
namespace Go.Proofs.Ytkemihfaohkoeaa.Am11
theorem f26_F_0 {x0a : Option Addr} {x0n x0c : Nat} {H : AHeap} {prot : Nat} (h1 : (↑x0n : Int) > 512) : callInf cfg 26 [.slice x0a x0n x0c] prot H = some (Value.int .i64 6, H) :=
  fn_of2 a26 [.e, .e, .b true] (ai (decide_eq_true h1) (Eq.refl ((Value.int .i64 6, H) : Value × AHeap))) (by kernel_rfl) rfl
theorem f26_F_1 {x0a : Option Addr} {x0n x0c : Nat} {H : AHeap} {prot : Nat} {z2 : Value} {H1 : AHeap} (h1 : ¬((↑x0n : Int) > 512)) (h2 : lpInf (lpOf cfg a26 0 prot H) ([Value.slice x0a x0n x0c, Value.int .i64 0], H) = some (Ex.exit 0, [z2], H1)) : callInf cfg 26 [.slice x0a x0n x0c] prot H = some (Value.int .i64 0, H) :=
  fn_of2 a26 [.e, .e, .b false, .lo (.exit 0, [z2], H1)] (ai (decide_eq_false h1) (ai h2 (Eq.refl ((Value.int .i64 0, H) : Value × AHeap)))) (by kernel_rfl) rfl
theorem f26_F_2 {x0a : Option Addr} {x0n x0c : Nat} {H : AHeap} {prot : Nat} {z2 : Int} {H1 : AHeap} (h1 : ¬((↑x0n : Int) > 512)) (h2 : lpInf (lpOf cfg a26 0 prot H) ([Value.slice x0a x0n x0c, Value.int .i64 0], H) = some (Ex.ret, [Value.int .i64 z2], H1)) : callInf cfg 26 [.slice x0a x0n x0c] prot H = some (Value.int .i64 z2, H) :=
  fn_of2 a26 [.e, .e, .b false, .lo (.ret, [.int .i64 z2], H1)] (ai (decide_eq_false h1) (ai h2 (Eq.refl ((Value.int .i64 z2, H) : Value × AHeap)))) (by kernel_rfl) rfl
theorem f26_L0_0 {x0a : Option Addr} {x0n x0c : Nat} {x3 : Int} {H0 : AHeap} {prot : Nat} {H : AHeap} {z0a : Option Addr} {z0n z0c : Nat} {z2 : Value} {z3 : Int} {H2 : AHeap} (h1 : x3 < (↑x0n : Int)) (h2 : lpInf (lpOf cfg a26 1 prot H0) ([Value.slice x0a x0n x0c, Value.int .i64 x3, Value.int .i64 0], H) = some (Ex.exit 2, [Value.slice z0a z0n z0c, z2, Value.int .i64 z3], H2)) (h3 : Fit .i64 (z3 + 1)) : lpOf cfg a26 0 prot H0 ([.slice x0a x0n x0c, .int .i64 x3], H) = some (Sum.inl ([Value.slice z0a z0n z0c, Value.int .i64 (z3 + 1)], H2)) :=
  lp_of2 [.e, .e, .b true, .lo (.exit 2, [.slice z0a z0n z0c, z2, .int .i64 z3], H2), .e] (ai (decide_eq_true h1) (ai h2 (ai h3 (Eq.refl (Sum.inl ([Value.slice z0a z0n z0c, Value.int .i64 (z3 + 1)], H2) : LS ⊕ LO))))) (by kernel_rfl)
theorem f26_L0_1 {x0a : Option Addr} {x0n x0c : Nat} {x3 : Int} {H0 : AHeap} {prot : Nat} {H : AHeap} {z0 : Value} {z2 : Int} {z3 : Value} {H2 : AHeap} (h1 : x3 < (↑x0n : Int)) (h2 : lpInf (lpOf cfg a26 1 prot H0) ([Value.slice x0a x0n x0c, Value.int .i64 x3, Value.int .i64 0], H) = some (Ex.ret, [z0, Value.int .i64 z2, z3], H2)) : lpOf cfg a26 0 prot H0 ([.slice x0a x0n x0c, .int .i64 x3], H) = some (Sum.inr (Ex.ret, [Value.int .i64 z2], H2)) :=
  lp_of2 [.e, .e, .b true, .lo (.ret, [z0, .int .i64 z2, z3], H2)] (ai (decide_eq_true h1) (ai h2 (Eq.refl (Sum.inr (Ex.ret, [Value.int .i64 z2], H2) : LS ⊕ LO)))) (by kernel_rfl)
theorem f26_L0_2 {x0a : Option Addr} {x0n x0c : Nat} {x3 : Int} {H0 : AHeap} {prot : Nat} {H : AHeap} (h1 : ¬(x3 < (↑x0n : Int))) : lpOf cfg a26 0 prot H0 ([.slice x0a x0n x0c, .int .i64 x3], H) = some (Sum.inr (Ex.exit 0, [Value.tuple { toList := [] }], H)) :=
  lp_of2 [.e, .e, .b false] (ai (decide_eq_false h1) (Eq.refl (Sum.inr (Ex.exit 0, [Value.tuple { toList := [] }], H) : LS ⊕ LO))) (by kernel_rfl)
theorem f26_L1_0 {x0a : Option Addr} {x0n x0c : Nat} {x3 x4 : Int} {H0 : AHeap} {prot : Nat} {H : AHeap} {x17p x17o x17l : Nat} {x18a : Option Addr} {x18n x18c x25p x25o x25l : Nat} {x26a : Option Addr} {x26n x26c x28p x28o x28l : Nat} {x29 : Int} (h1 : aindexAddr cfg.P 22 (Value.slice x0a x0n x0c) (Value.int .i64 x3) = some (Value.pointer (some ⟨x17p, x17o, some x17l⟩))) (h2 : getCells H x17p x17l x17o 1 = some [Value.slice x18a x18n x18c]) (h3 : x4 < (↑x18n : Int)) (h4 : aindexAddr cfg.P 22 (Value.slice x0a x0n x0c) (Value.int .i64 x3) = some (Value.pointer (some ⟨x25p, x25o, some x25l⟩))) (h5 : getCells H x25p x25l x25o 1 = some [Value.slice x26a x26n x26c]) (h6 : aindexAddr cfg.P 34 (Value.slice x26a x26n x26c) (Value.int .i64 x4) = some (Value.pointer (some ⟨x28p, x28o, some x28l⟩))) (h7 : getCells H x28p x28l x28o 1 = some [Value.int .i64 x29]) (h8 : x29 < 0) : lpOf cfg a26 1 prot H0 ([.slice x0a x0n x0c, .int .i64 x3, .int .i64 x4], H) = some (Sum.inr (Ex.ret, [Value.slice x0a x0n x0c, Value.int .i64 11, Value.int .i64 x3], H)) :=
  lp_of2 [.v (.pointer (some ⟨x17p, x17o, some x17l⟩)), .v (.slice x18a x18n x18c), .e, .e, .b true, .v (.pointer (some ⟨x25p, x25o, some x25l⟩)), .v (.slice x26a x26n x26c), .v (.pointer (some ⟨x28p, x28o, some x28l⟩)), .v (.int .i64 x29), .e, .b true, .b true, .b true, .b true, .b true, .b true, .b true, .b true, .b true, .b true, .b true, .b true] (ai h1 (ai h2 (ai (decide_eq_true h3) (ai h4 (ai h5 (ai h6 (ai h7 (ai (decide_eq_true h8) (ai (decide_eq_true h8) (ai (decide_eq_true h8) (ai (decide_eq_true h8) (ai (decide_eq_true h8) (ai (decide_eq_true h8) (ai (decide_eq_true h8) (ai (decide_eq_true h8) (ai (decide_eq_true h8) (ai (decide_eq_true h8) (ai (decide_eq_true h8) (ai (Eq.refl true) (Eq.refl (Sum.inr (Ex.ret, [Value.slice x0a x0n x0c, Value.int .i64 11, Value.int .i64 x3], H) : LS ⊕ LO))))))))))))))))))))) (by kernel_rfl)
theorem f26_L1_1 {x0a : Option Addr} {x0n x0c : Nat} {x3 x4 : Int} {H0 : AHeap} {prot : Nat} {H : AHeap} {x17p x17o x17l : Nat} {x18a : Option Addr} {x18n x18c x25p x25o x25l : Nat} {x26a : Option Addr} {x26n x26c x28p x28o x28l : Nat} {x29 : Int} {x34p x34o x34l : Nat} {x35a : Option Addr} {x35n x35c x37p x37o x37l : Nat} {x38 : Int} (h1 : aindexAddr cfg.P 22 (Value.slice x0a x0n x0c) (Value.int .i64 x3) = some (Value.pointer (some ⟨x17p, x17o, some x17l⟩))) (h2 : getCells H x17p x17l x17o 1 = some [Value.slice x18a x18n x18c]) (h3 : x4 < (↑x18n : Int)) (h4 : aindexAddr cfg.P 22 (Value.slice x0a x0n x0c) (Value.int .i64 x3) = some (Value.pointer (some ⟨x25p, x25o, some x25l⟩))) (h5 : getCells H x25p x25l x25o 1 = some [Value.slice x26a x26n x26c]) (h6 : aindexAddr cfg.P 34 (Value.slice x26a x26n x26c) (Value.int .i64 x4) = some (Value.pointer (some ⟨x28p, x28o, some x28l⟩))) (h7 : getCells H x28p x28l x28o 1 = some [Value.int .i64 x29]) (h8 : ¬(x29 < 0)) (h9 : aindexAddr cfg.P 22 (Value.slice x0a x0n x0c) (Value.int .i64 x3) = some (Value.pointer (some ⟨x34p, x34o, some x34l⟩))) (h10 : getCells H x34p x34l x34o 1 = some [Value.slice x35a x35n x35c]) (h11 : aindexAddr cfg.P 34 (Value.slice x35a x35n x35c) (Value.int .i64 x4) = some (Value.pointer (some ⟨x37p, x37o, some x37l⟩))) (h12 : getCells H x37p x37l x37o 1 = some [Value.int .i64 x38]) (h13 : x38 ≥ (↑x0n : Int)) : lpOf cfg a26 1 prot H0 ([.slice x0a x0n x0c, .int .i64 x3, .int .i64 x4], H) = some (Sum.inr (Ex.ret, [Value.slice x0a x0n x0c, Value.int .i64 11, Value.int .i64 x3], H)) :=
  lp_of2 [.v (.pointer (some ⟨x17p, x17o, some x17l⟩)), .v (.slice x18a x18n x18c), .e, .e, .b true, .v (.pointer (some ⟨x25p, x25o, some x25l⟩)), .v (.slice x26a x26n x26c), .v (.pointer (some ⟨x28p, x28o, some x28l⟩)), .v (.int .i64 x29), .e, .b false, .b false, .b false, .v (.pointer (some ⟨x34p, x34o, some x34l⟩)), .b false, .v (.slice x35a x35n x35c), .b false, .b false, .v (.pointer (some ⟨x37p, x37o, some x37l⟩)), .b false, .v (.int .i64 x38), .b false, .b false, .e, .b false, .e, .b false, .b true] (ai h1 (ai h2 (ai (decide_eq_true h3) (ai h4 (ai h5 (ai h6 (ai h7 (ai (decide_eq_false h8) (ai (decide_eq_false h8) (ai (decide_eq_false h8) (ai h9 (ai (decide_eq_false h8) (ai h10 (ai (decide_eq_false h8) (ai (decide_eq_false h8) (ai h11 (ai (decide_eq_false h8) (ai h12 (ai (decide_eq_false h8) (ai (decide_eq_false h8) (ai (decide_eq_false h8) (ai (decide_eq_false h8) (ai (decide_eq_true h13) (Eq.refl (Sum.inr (Ex.ret, [Value.slice x0a x0n x0c, Value.int .i64 11, Value.int .i64 x3], H) : LS ⊕ LO))))))))))))))))))))))))) (by kernel_rfl)
theorem f26_L1_2 {x0a : Option Addr} {x0n x0c : Nat} {x3 x4 : Int} {H0 : AHeap} {prot : Nat} {H : AHeap} {x17p x17o x17l : Nat} {x18a : Option Addr} {x18n x18c x25p x25o x25l : Nat} {x26a : Option Addr} {x26n x26c x28p x28o x28l : Nat} {x29 : Int} {x34p x34o x34l : Nat} {x35a : Option Addr} {x35n x35c x37p x37o x37l : Nat} {x38 : Int} (h1 : aindexAddr cfg.P 22 (Value.slice x0a x0n x0c) (Value.int .i64 x3) = some (Value.pointer (some ⟨x17p, x17o, some x17l⟩))) (h2 : getCells H x17p x17l x17o 1 = some [Value.slice x18a x18n x18c]) (h3 : x4 < (↑x18n : Int)) (h4 : aindexAddr cfg.P 22 (Value.slice x0a x0n x0c) (Value.int .i64 x3) = some (Value.pointer (some ⟨x25p, x25o, some x25l⟩))) (h5 : getCells H x25p x25l x25o 1 = some [Value.slice x26a x26n x26c]) (h6 : aindexAddr cfg.P 34 (Value.slice x26a x26n x26c) (Value.int .i64 x4) = some (Value.pointer (some ⟨x28p, x28o, some x28l⟩))) (h7 : getCells H x28p x28l x28o 1 = some [Value.int .i64 x29]) (h8 : ¬(x29 < 0)) (h9 : aindexAddr cfg.P 22 (Value.slice x0a x0n x0c) (Value.int .i64 x3) = some (Value.pointer (some ⟨x34p, x34o, some x34l⟩))) (h10 : getCells H x34p x34l x34o 1 = some [Value.slice x35a x35n x35c]) (h11 : aindexAddr cfg.P 34 (Value.slice x35a x35n x35c) (Value.int .i64 x4) = some (Value.pointer (some ⟨x37p, x37o, some x37l⟩))) (h12 : getCells H x37p x37l x37o 1 = some [Value.int .i64 x38]) (h13 : ¬(x38 ≥ (↑x0n : Int))) (h14 : Fit .i64 (x4 + 1)) : lpOf cfg a26 1 prot H0 ([.slice x0a x0n x0c, .int .i64 x3, .int .i64 x4], H) = some (Sum.inl ([Value.slice x0a x0n x0c, Value.int .i64 x3, Value.int .i64 (x4 + 1)], H)) :=
  lp_of2 [.v (.pointer (some ⟨x17p, x17o, some x17l⟩)), .v (.slice x18a x18n x18c), .e, .e, .b true, .v (.pointer (some ⟨x25p, x25o, some x25l⟩)), .v (.slice x26a x26n x26c), .v (.pointer (some ⟨x28p, x28o, some x28l⟩)), .v (.int .i64 x29), .e, .b false, .b false, .b false, .v (.pointer (some ⟨x34p, x34o, some x34l⟩)), .b false, .v (.slice x35a x35n x35c), .b false, .b false, .v (.pointer (some ⟨x37p, x37o, some x37l⟩)), .b false, .v (.int .i64 x38), .b false, .b false, .e, .b false, .e, .b false, .b false, .e] (ai h1 (ai h2 (ai (decide_eq_true h3) (ai h4 (ai h5 (ai h6 (ai h7 (ai (decide_eq_false h8) (ai (decide_eq_false h8) (ai (decide_eq_false h8) (ai h9 (ai (decide_eq_false h8) (ai h10 (ai (decide_eq_false h8) (ai (decide_eq_false h8) (ai h11 (ai (decide_eq_false h8) (ai h12 (ai (decide_eq_false h8) (ai (decide_eq_false h8) (ai (decide_eq_false h8) (ai (decide_eq_false h8) (ai (decide_eq_false h13) (ai h14 (Eq.refl (Sum.inl ([Value.slice x0a x0n x0c, Value.int .i64 x3, Value.int .i64 (x4 + 1)], H) : LS ⊕ LO)))))))))))))))))))))))))) (by kernel_rfl)
theorem f26_L1_3 {x0a : Option Addr} {x0n x0c : Nat} {x3 x4 : Int} {H0 : AHeap} {prot : Nat} {H : AHeap} {x17p x17o x17l : Nat} {x18a : Option Addr} {x18n x18c : Nat} (h1 : aindexAddr cfg.P 22 (Value.slice x0a x0n x0c) (Value.int .i64 x3) = some (Value.pointer (some ⟨x17p, x17o, some x17l⟩))) (h2 : getCells H x17p x17l x17o 1 = some [Value.slice x18a x18n x18c]) (h3 : ¬(x4 < (↑x18n : Int))) : lpOf cfg a26 1 prot H0 ([.slice x0a x0n x0c, .int .i64 x3, .int .i64 x4], H) = some (Sum.inr (Ex.exit 2, [Value.slice x0a x0n x0c, Value.tuple { toList := [] }, Value.int .i64 x3], H)) :=
  lp_of2 [.v (.pointer (some ⟨x17p, x17o, some x17l⟩)), .v (.slice x18a x18n x18c), .e, .e, .b false] (ai h1 (ai h2 (ai (decide_eq_false h3) (Eq.refl (Sum.inr (Ex.exit 2, [Value.slice x0a x0n x0c, Value.tuple { toList := [] }, Value.int .i64 x3], H) : LS ⊕ LO))))) (by kernel_rfl)
end Go.Proofs.Ytkemihfaohkoeaa.Am11
namespace Go.Proofs.Ytkemihfaohkoeaa.Am11
open Go Go.Proofs.Ytkemihfaohkoeaa.Am
theorem T22 : ElemT cfg.P 22 34 1 24 := ⟨by kernel_rfl, by kernel_rfl, by kernel_rfl, ⟨.slice none 0 0, by kernel_rfl, rfl⟩, by kernel_rfl, by omega, by omega⟩
theorem T34 : ElemT cfg.P 34 3 1 8 := ⟨by kernel_rfl, by kernel_rfl, by kernel_rfl, ⟨.int .i64 0, by kernel_rfl, rfl⟩, by kernel_rfl, by omega, by omega⟩
def il (l : List Int) : List Value := l.map (.int .i64)
theorem il_get {l : List Int} {i : Nat} (h : i < l.length) : (il l)[i]? = some (.int .i64 l[i]) := by simp [il, h]
theorem il_cell (l) : (il l).all isCell = true := by simp [il, isCell]
theorem il_plain (l) : (il l).all plain0 = true := by simp [il, plain0]
/-- A graph that may be read. -/
def Gr (H : AHeap) (v : Value) (G : List (List Int)) : Prop := ∃ cs, Rd H 34 1 v G.length cs ∧ ∀ (i : Nat) (l : List Int), G[i]? = some l → ∃ r, cs[i]? = some r ∧ Rd H 3 1 r l.length (il l)
theorem Gr.stay {H H' : AHeap} {v : Value} {G : List (List Int)} (h : Gr H v G) (s : Stay none H H') : Gr H' v G := by
  obtain ⟨cs, h1, h2⟩ := h
  exact ⟨cs, h1.stay s, fun i l hl => by obtain ⟨r, a, b⟩ := h2 i l hl; exact ⟨r, a, b.stay s⟩⟩
theorem Gr.len {H : AHeap} {v : Value} {G : List (List Int)} (h : Gr H v G) : ∃ a c, v = .slice a G.length c := by
  obtain ⟨cs, h1, _⟩ := h
  exact h1.len
theorem Gr.row {H : AHeap} {v : Value} {G : List (List Int)} (h : Gr H v G) {i : Nat} (hi : i < G.length) :
    ∃ id L r, aindexAddr cfg.P 22 v (.int .i64 i) = some (.pointer (some ⟨id, i, some L⟩)) ∧ getCells H id L i 1 = some [r] ∧ Rd H 3 1 r G[i].length (il G[i]) := by
  obtain ⟨cs, h1, h2⟩ := h
  obtain ⟨r, a, b⟩ := h2 i G[i] (List.getElem?_eq_getElem hi)
  obtain ⟨id, L, p, q⟩ := rd_at T22 h1 a
  exact ⟨id, L, r, p, q, b⟩
/-- Lists are not too long. -/
def Short (G : List (List Int)) : Prop := ∀ l ∈ G, l.length ≤ 140737488355328
def bad (n : Nat) (l : List Int) : Bool := l.any fun x => decide (x < 0 ∨ (n : Int) ≤ x)
/-- What Check answers. -/
def chk (G : List (List Int)) : Int := if 512 < G.length then 6 else if G.any (bad G.length) then 11 else 0

theorem loop25i {G : List (List Int)} {x y r : Value} {m j : Int} {H0 H : AHeap} {prot : Nat} {l : List Int} (hl : l.length ≤ 140737488355328) (hx : ∃ a c, x = .slice a G.length c) (hy : ∃ a n c, y = .slice a n c) (hr : Rd H 3 1 r l.length (il l)) : ∀ (d i : Nat), i + d = l.length →
    lpInf (lpOf cfg a25 1 prot H0) ([x, y, .int .i64 m, .int .i64 j, r, .int .i64 l.length, .int .i64 i], H) =
      some (if bad G.length (l.drop i) then (.ret, [x, .int .i64 11, y, .int .i64 m, .int .i64 j], H) else (.exit 2, [x, .tuple #[], y, .int .i64 m, .int .i64 j], H))
  | 0, i, hi => by
    rw [List.drop_of_length_le (by omega)]
    obtain ⟨_, _, rfl⟩ := hx
    obtain ⟨_, _, _, rfl⟩ := hy
    obtain ⟨_, _, rfl⟩ := hr.len
    exact lp_last (f25_L1_3 (by omega))
  | d + 1, i, hi => by
    have hil : i < l.length := by omega
    obtain ⟨id, L, p, q⟩ := rd_at T34 hr (il_get hil)
    have ih := loop25i hl hx hy hr (m := m) (j := j) (H0 := H0) (prot := prot) d (i + 1) (by omega)
    rw [List.drop_eq_getElem_cons hil]
    unfold bad at ih ⊢
    rw [List.any_cons]
    obtain ⟨_, _, rfl⟩ := hx
    obtain ⟨_, _, _, rfl⟩ := hy
    obtain ⟨_, _, rfl⟩ := hr.len
    by_cases h1 : l[i] < 0
    · rw [decide_eq_true (.inl h1), Bool.true_or, if_pos rfl]
      exact lp_last (f25_L1_0 (by omega) p q h1)
    · by_cases h2 : (G.length : Int) ≤ l[i]
      · rw [decide_eq_true (.inr h2), Bool.true_or, if_pos rfl]
        exact lp_last (f25_L1_1 (by omega) p q h1 (by omega))
      · rw [decide_eq_false (by omega), Bool.false_or]
        exact lp_next (f25_L1_2 (by omega) p q h1 (by omega) (fit64 (by omega) (by omega))) ih
theorem loop25o {G : List (List Int)} (hs : Short G) (hn : G.length ≤ 512) {x : Value} {H0 H : AHeap} {prot : Nat} (hx : Gr H x G) : ∀ (d i : Nat), i + d = G.length →
    ∃ e vs, lpInf (lpOf cfg a25 0 prot H0) ([x, x, .int .i64 G.length, .int .i64 i], H) = some (e, vs, H) ∧ ((e = .exit 0 ∧ vs = [.tuple #[]] ∧ (G.drop i).any (bad G.length) = false) ∨ (e = .ret ∧ vs = [.int .i64 11] ∧ (G.drop i).any (bad G.length) = true))
  | 0, i, hi => by
    rw [List.drop_of_length_le (by omega)]
    obtain ⟨_, _, rfl⟩ := hx.len
    exact ⟨_, _, lp_last (f25_L0_2 (by omega)), .inl ⟨rfl, rfl, rfl⟩⟩
  | d + 1, i, hi => by
    have hil : i < G.length := by omega
    obtain ⟨id, L, r, p, q, hr⟩ := hx.row hil
    obtain ⟨e, vs, z1, z2⟩ := loop25o hs hn hx (H0 := H0) (prot := prot) d (i + 1) (by omega)
    have hlp := loop25i (G := G) (hs _ (List.getElem_mem hil)) hx.len (by obtain ⟨a, c, h⟩ := hx.len; exact ⟨a, _, c, h⟩) hr (m := (G.length : Int)) (j := (i : Int)) (H0 := H0) (prot := prot) (G[i]).length 0 (by omega)
    rw [List.drop_zero] at hlp
    rw [List.drop_eq_getElem_cons hil, List.any_cons]
    obtain ⟨_, _, rfl⟩ := hx.len
    obtain ⟨_, _, rfl⟩ := hr.len
    cases hb : bad G.length G[i] with
    | true =>
      rw [hb, if_pos rfl] at hlp
      exact ⟨_, _, lp_last (f25_L0_1 (by omega) p q hlp), .inr ⟨rfl, rfl, rfl⟩⟩
    | false =>
      rw [hb, if_neg (by simp)] at hlp
      exact ⟨e, vs, lp_next (f25_L0_0 (by omega) p q hlp (fit64 (by omega) (by omega))) z1, z2⟩
theorem c25 {G : List (List Int)} (hs : Short G) {x : Value} (prot : Nat) {H : AHeap} (hx : Gr H x G) : callInf cfg 25 [x] prot H = some (.int .i64 (chk G), H) := by
  obtain ⟨a, c, hxe⟩ := hx.len
  unfold chk
  by_cases h : 512 < G.length
  · rw [if_pos h]
    subst hxe
    exact f25_F_0 (by omega)
  · rw [if_neg h]
    obtain ⟨e, vs, z1, z2⟩ := loop25o hs (by omega) hx (H0 := H) (prot := prot) G.length 0 (by omega)
    rw [List.drop_zero] at z2
    subst hxe
    rcases z2 with ⟨rfl, rfl, h3⟩ | ⟨rfl, rfl, h3⟩
    · rw [h3, if_neg (by simp)]
      exact f25_F_1 (by omega) z1
    · rw [h3, if_pos rfl]
      exact f25_F_2 (by omega) z1
/-- A good graph: its edges lead to its vertices. -/
def Good (G : List (List Int)) : Prop := G.length ≤ 512 ∧ Short G ∧ ∀ (i : Nat) (l : List Int) (x : Int), G[i]? = some l → x ∈ l → 0 ≤ x ∧ x < G.length
theorem good_of {G : List (List Int)} (hs : Short G) (h : chk G = 0) : Good G := by
  unfold chk at h
  split at h
  · cases h
  · split at h
    · cases h
    · rename_i h1 h2
      refine ⟨by omega, hs, fun i l x hl hx => ?_⟩
      have h3 : G.any (bad G.length) = false := by simpa using h2
      rw [List.any_eq_false] at h3
      have h4 := h3 l (List.mem_of_getElem? hl)
      have h5 : bad G.length l = false := by simpa using h4
      unfold bad at h5
      rw [List.any_eq_false] at h5
      have h6 := h5 x hx
      simp at h6
      omega
end Go.Proofs.Ytkemihfaohkoeaa.Am11
namespace Go.Proofs.Ytkemihfaohkoeaa.Am11
/-! Ways in a graph; what is marked depth first. -/
def sc (G : List (List Int)) (v : Nat) : List Nat := (G.getD v []).map Int.toNat
/-- A way that is not empty. -/
inductive Rch (G : List (List Int)) : Nat → Nat → Prop
  | one {v u : Nat} : u ∈ sc G v → Rch G v u
  | step {v w u : Nat} : Rch G v w → u ∈ sc G w → Rch G v u
theorem Rch.trans {G : List (List Int)} {a b c : Nat} (h : Rch G a b) (k : Rch G b c) : Rch G a c := by
  induction k with
  | one e => exact .step h e
  | step _ e ih => exact .step ih e
def at_ (M : List Bool) (u : Nat) : Bool := M.getD u false
def unm (M : List Bool) : Nat := M.countP (!·)
/-- What a walk from a vertex has done, of which the first i neighbours are through. -/
structure Post (G : List (List Int)) (M : List Bool) (v i : Nat) (M' : List Bool) : Prop where
  len : M'.length = M.length
  mono : ∀ x, at_ M x = true → at_ M' x = true
  sound : ∀ x, at_ M' x = true → at_ M x = true ∨ Rch G v x
  nb : ∀ j u, j < i → (sc G v)[j]? = some u → at_ M' u = true
  closed : ∀ x, at_ M' x = true → at_ M x = false → ∀ w ∈ sc G x, at_ M' w = true
theorem Post.start (G : List (List Int)) (M : List Bool) (v : Nat) : Post G M v 0 M := ⟨rfl, fun _ h => h, fun _ h => .inl h, fun _ _ h => by omega, fun x h1 h2 => by rw [h1] at h2; cases h2⟩
theorem Post.skip {G : List (List Int)} {M M1 : List Bool} {v i u : Nat} (h : Post G M v i M1) (hu : (sc G v)[i]? = some u) (hm : at_ M1 u = true) : Post G M v (i + 1) M1 :=
  ⟨h.len, h.mono, h.sound, fun j w hj hw => by
    by_cases e : j = i
    · subst e; rw [hu] at hw; cases hw; exact hm
    · exact h.nb j w (by omega) hw, h.closed⟩
/-- From nothing: just what is reached. -/
theorem Post.all {G : List (List Int)} {n v : Nat} {M : List Bool} (h : Post G (List.replicate n false) v (sc G v).length M) (x : Nat) : at_ M x = true ↔ Rch G v x := by
  have hz : ∀ x, at_ (List.replicate n false) x = false := fun x => by
    unfold at_
    rw [List.getD_eq_getElem?_getD, List.getElem?_replicate]
    split <;> rfl
  constructor
  · intro hx
    rcases h.sound x hx with h1 | h1
    · rw [hz] at h1; cases h1
    · exact h1
  · intro hr
    induction hr with
    | one e =>
      obtain ⟨j, hj, rfl⟩ := List.getElem_of_mem e
      exact h.nb j _ hj (List.getElem?_eq_getElem hj)
    | step _ e ih => exact h.closed _ ih (hz _) _ e
end Go.Proofs.Ytkemihfaohkoeaa.Am11
set_option linter.unusedVariables false
open Go Go.Proofs.Ytkemihfaohkoeaa.Am
namespace Go.Proofs.Ytkemihfaohkoeaa.Am11
end Go.Proofs.Ytkemihfaohkoeaa.Am11
set_option linter.unusedVariables false
open Go Go.Proofs.Ytkemihfaohkoeaa.Am
namespace Go.Proofs.Ytkemihfaohkoeaa.Am11
end Go.Proofs.Ytkemihfaohkoeaa.Am11
namespace Go.Proofs.Ytkemihfaohkoeaa.Am11
open Go Go.Proofs.Ytkemihfaohkoeaa.Am
def bll (l : List Bool) : List Value := l.map .bool
abbrev f47 (p1 p2 p3 : Nat) : Value := .func (.func 47) #[] #[.pointer (some ⟨p1, 0, some 1⟩), .pointer (some ⟨p2, 0, some 1⟩), .pointer (some ⟨p3, 0, some 1⟩)]
theorem sc_get {G : List (List Int)} (hG : Good G) {v : Nat} (hv : v < G.length) {i : Nat} (hi : i < G[v].length) : ∃ u : Nat, G[v][i] = (u : Int) ∧ u < G.length ∧ (sc G v)[i]? = some u := by
  have h := hG.2.2 v G[v] G[v][i] (List.getElem?_eq_getElem hv) (List.getElem_mem hi)
  refine ⟨G[v][i].toNat, by omega, by omega, ?_⟩
  unfold sc
  rw [List.getD_eq_getElem?_getD, List.getElem?_eq_getElem hv, Option.getD_some, List.getElem?_map, List.getElem?_eq_getElem hi]
  rfl
theorem sc_len {G : List (List Int)} {v : Nat} (hv : v < G.length) : (sc G v).length = G[v].length := by
  unfold sc
  rw [List.length_map, List.getD_eq_getElem?_getD, List.getElem?_eq_getElem hv]; rfl

structure W47 (G0 H : AHeap) (vG : Value) (p1 p2 p3 pm : Nat) (M : List Bool) : Prop where
  g1 : H[p1]? = some (.cells [vG] 22 1 .var)
  g2 : H[p2]? = some (.cells [.pointer (some ⟨pm, 0, some 512⟩)] 68 1 .var)
  g3 : H[p3]? = some (.cells [f47 p1 p2 p3] 78 1 .var)
  gm : H[pm]? = some (.cells (bll M) 77 512 .var)
  ml : M.length = 512
  st : Stay none G0 H
theorem at_get {M : List Bool} {u : Nat} (h : u < M.length) : (bll M)[u]? = some (.bool (at_ M u)) := by
  unfold bll at_
  rw [List.getElem?_map, List.getElem?_eq_getElem h, List.getD_eq_getElem?_getD, List.getElem?_eq_getElem h]; rfl

end Go.Proofs.Ytkemihfaohkoeaa.Am11
set_option linter.unusedVariables false
open Go Go.Proofs.Ytkemihfaohkoeaa.Am
namespace Go.Proofs.Ytkemihfaohkoeaa.Am11
end Go.Proofs.Ytkemihfaohkoeaa.Am11
set_option linter.unusedVariables false
open Go Go.Proofs.Ytkemihfaohkoeaa.Am
namespace Go.Proofs.Ytkemihfaohkoeaa.Am11
end Go.Proofs.Ytkemihfaohkoeaa.Am11
set_option linter.unusedVariables false
open Go Go.Proofs.Ytkemihfaohkoeaa.Am
namespace Go.Proofs.Ytkemihfaohkoeaa.Am11
end Go.Proofs.Ytkemihfaohkoeaa.Am11
namespace Go.Proofs.Ytkemihfaohkoeaa.Am11
open Go Go.Proofs.Ytkemihfaohkoeaa.Am
theorem T65 : ElemT cfg.P 65 68 1 8 := ⟨by kernel_rfl, by kernel_rfl, by kernel_rfl, ⟨.pointer none, by kernel_rfl, rfl⟩, by kernel_rfl, by omega, by omega⟩
def ptl (ps : List Nat) : List Value := ps.map fun (p : Nat) => .pointer (some ⟨p, 0, some 512⟩)
/-- The marks of the first vertices. -/
structure Mk (G : List (List Int)) (H : AHeap) (v p : Nat) : Prop where
  ex : ∃ M, H[p]? = some (.cells (bll M) 77 512 .var) ∧ M.length = 512 ∧ ∀ u, at_ M u = true ↔ Rch G v u
theorem Mk.stay {G : List (List Int)} {H H' : AHeap} {v p : Nat} (h : Mk G H v p) {o : Option Nat} (s : Stay o H H') (hne : o ≠ some p) : Mk G H' v p := by
  obtain ⟨M, h1, h2, h3⟩ := h.ex
  exact ⟨M, by rw [s.2 p (List.getElem?_eq_some_iff.1 h1).1 hne]; exact h1, h2, h3⟩
theorem Mk.lt {G : List (List Int)} {H : AHeap} {v p : Nat} (h : Mk G H v p) : p < H.length := by
  obtain ⟨M, h1, _⟩ := h.ex
  exact (List.getElem?_eq_some_iff.1 h1).1
theorem gc_not {H H1 : AHeap} {e s n id : Nat} {x : Value} {cs : List Value} (h : Own H1 e s x (some id) n cs) (hp : cs.all plain0 = false) : gc H [x] H1 = (x, H1) := by
  obtain ⟨hl, hn, rfl, wr, hwr, hH⟩ := h
  unfold gc
  have hnd : noDup (sliceIds [.slice (some ⟨id, 0, some cs.length⟩) n n]) = true := rfl
  rw [if_pos hnd]
  have : keepAll H.length H1 [.slice (some ⟨id, 0, some cs.length⟩) n n] [] = none := by
    simp only [keepAll, keep1]
    split
    · rfl
    · rw [hH]
      simp [hp]
  rw [this]
  rfl

/-- The list of marks, one for each vertex. -/
structure WL (G : List (List Int)) (H : AHeap) (x : Value) : Prop where
  ex : ∃ ps : List Nat, Rd H 68 1 x G.length (ptl ps) ∧ ps.length = G.length ∧ ∀ (j p : Nat), ps[j]? = some p → Mk G H j p
theorem WL.stay {G : List (List Int)} {H H' : AHeap} {x : Value} (h : WL G H x) (s : Stay none H H') : WL G H' x := by
  obtain ⟨ps, h1, h2, h3⟩ := h.ex
  exact ⟨ps, h1.stay s, h2, fun j p hj => (h3 j p hj).stay s (by simp)⟩
theorem WL.at {G : List (List Int)} {H : AHeap} {x : Value} (h : WL G H x) {v u : Nat} (hv : v < G.length) (hu : u < 512) :
    ∃ id L p b, aindexAddr cfg.P 65 x (.int .i64 v) = some (.pointer (some ⟨id, v, some L⟩)) ∧ getCells H id L v 1 = some [.pointer (some ⟨p, 0, some 512⟩)] ∧ getCells H p 512 (0 + u * 1) 1 = some [.bool b] ∧ (b = true ↔ Rch G v u) := by
  obtain ⟨ps, h1, h2, h3⟩ := h.ex
  have hp : ps[v]? = some ps[v] := List.getElem?_eq_getElem (by omega)
  obtain ⟨id, L, a, b⟩ := rd_at T65 h1 (show (ptl ps)[v]? = some (.pointer (some ⟨ps[v], 0, some 512⟩)) by unfold ptl; rw [List.getElem?_map, hp]; rfl)
  obtain ⟨M, m1, m2, m3⟩ := (h3 v _ hp).ex
  exact ⟨id, L, ps[v], at_ M u, a, b, arr_get m1 (by simp [bll, m2]) (at_get (by omega)), m3 u⟩
end Go.Proofs.Ytkemihfaohkoeaa.Am11
namespace Go.Proofs.Ytkemihfaohkoeaa.Am11
open Go Go.Proofs.Ytkemihfaohkoeaa.Am
/-- Does each one reach the other? -/
noncomputable def mu (G : List (List Int)) (v u : Nat) : Bool := @decide (Rch G v u ∧ Rch G u v) (Classical.propDecidable _)
def findM (p : Nat → Bool) : Nat → Nat → Option Nat
  | 0, _ => none
  | d + 1, u => if p u then some u else findM p d (u + 1)
/-- The numbers of the components. -/
noncomputable def numR (G : List (List Int)) : Nat → Nat → List Nat → Nat → List Nat × Nat
  | 0, _, out, n => (out, n)
  | d + 1, v, out, n => match findM (mu G v) v 0 with
    | some u => numR G d (v + 1) (out ++ [out.getD u 0]) n
    | none => numR G d (v + 1) (out ++ [n]) (n + 1)
noncomputable def comp (G : List (List Int)) : List Nat × Nat := numR G G.length 0 [] 0
def nl (l : List Nat) : List Int := l.map fun (x : Nat) => (x : Int)
def pad (N : Nat) (l : List Int) : List Int := l ++ List.replicate (N - l.length) 0
end Go.Proofs.Ytkemihfaohkoeaa.Am11
set_option linter.unusedVariables false
open Go Go.Proofs.Ytkemihfaohkoeaa.Am
namespace Go.Proofs.Ytkemihfaohkoeaa.Am11
theorem f45_F_0 {x0a : Option Addr} {x0n x0c : Nat} {H : AHeap} {prot : Nat} {x9 : Int} {H1 : AHeap} (h1 : callInf cfg 49 [Value.int .u64 (IntKind.u64.wrap (↑x0n : Int))] prot H = some (Value.int .i64 x9, H)) (h2 : callInf cfg 48 [Value.slice x0a x0n x0c, Value.int .i64 0, Value.int .i64 (↑x0n : Int), Value.int .i64 x9] prot H = some (Value.tuple { toList := [] }, H1)) : callInf cfg 45 [.slice x0a x0n x0c] prot H = some (Value.tuple { toList := [] }, H1) :=
  fn_of2 a45 [.e, .e, .v (.int .i64 x9), .r (.tuple #[]) H1] (ai h1 (ai h2 (Eq.refl ((Value.tuple { toList := [] }, H1) : Value × AHeap)))) (by kernel_rfl) rfl
end Go.Proofs.Ytkemihfaohkoeaa.Am11
set_option linter.unusedVariables false
open Go Go.Proofs.Ytkemihfaohkoeaa.Am
namespace Go.Proofs.Ytkemihfaohkoeaa.Am11
theorem f48_F_0 {x0a : Option Addr} {x0n x0c : Nat} {x1 x2 x3 : Int} {H : AHeap} {prot : Nat} {H1 : AHeap} (h1 : lpInf (lpOf cfg a48 0 prot H) ([Value.slice x0a x0n x0c, Value.int .i64 x1, Value.int .i64 x2, Value.int .i64 x3, Value.bool true, Value.bool true], H) = some (Ex.ret, [], H1)) : callInf cfg 48 [.slice x0a x0n x0c, .int .i64 x1, .int .i64 x2, .int .i64 x3] prot H = some (Value.tuple { toList := [] }, H1) :=
  fn_of2 a48 [.lo (.ret, [], H1)] (ai h1 (Eq.refl ((Value.tuple { toList := [] }, H1) : Value × AHeap))) (by kernel_rfl) rfl
theorem f48_L0_0 {x0a : Option Addr} {x0n x0c : Nat} {x1 x2 x3 : Int} {x8 x9 : Bool} {H0 : AHeap} {prot : Nat} {H H2 : AHeap} (h1 : Fit .i64 (x2 - x1)) (h2 : x2 - x1 ≤ 12) (h3 : callInf cfg 51 [Value.slice x0a x0n x0c, Value.int .i64 x1, Value.int .i64 x2] prot H = some (Value.tuple { toList := [] }, H2)) : lpOf cfg a48 0 prot H0 ([.slice x0a x0n x0c, .int .i64 x1, .int .i64 x2, .int .i64 x3, .bool x8, .bool x9], H) = some (Sum.inr (Ex.ret, [], H2)) :=
  lp_of2 [.e, .e, .b true, .r (.tuple #[]) H2] (ai h1 (ai (decide_eq_true h2) (ai h3 (Eq.refl (Sum.inr (Ex.ret, [], H2) : LS ⊕ LO))))) (by kernel_rfl)
theorem f48_L0_18 {x0a : Option Addr} {x0n x0c : Nat} {x1 x2 x3 : Int} {x8 x9 : Bool} {H0 : AHeap} {prot : Nat} {H : AHeap} {x46a x46b : Int} {x72 : Bool} {H2 : AHeap} (h1 : Fit .i64 (x2 - x1)) (h2 : ¬(x2 - x1 ≤ 12)) (h3 : (x3 == 0) = false) (h4 : (!x8) = false) (h5 : callInf cfg 54 [Value.slice x0a x0n x0c, Value.int .i64 x1, Value.int .i64 x2] prot H = some (Value.tuple { toList := [Value.int .i64 x46a, Value.int .i64 x46b] }, H)) (h6 : (x46b == 2) = false) (h7 : x8 = true) (h8 : x9 = true) (h9 : (x46b == 1) = true) (h10 : callInf cfg 56 [Value.slice x0a x0n x0c, Value.int .i64 x1, Value.int .i64 x2] prot H = some (Value.bool x72, H2)) (h11 : x72 = true) : lpOf cfg a48 0 prot H0 ([.slice x0a x0n x0c, .int .i64 x1, .int .i64 x2, .int .i64 x3, .bool x8, .bool x9], H) = some (Sum.inr (Ex.ret, [], H2)) :=
  lp_of2 [.e, .e, .b false, .e, .b false, .e, .b false, .v (.tuple #[.int .i64 x46a, .int .i64 x46b]), .e, .b false, .b true, .b true, .b true, .b true, .e, .b true, .b true, .r (.bool x72) H2, .b true] (ai h1 (ai (decide_eq_false h2) (ai h3 (ai h4 (ai h5 (ai h6 (ai h7 (ai h7 (ai h8 (ai h8 (ai h8 (ai h9 (ai h10 (ai h11 (Eq.refl (Sum.inr (Ex.ret, [], H2) : LS ⊕ LO)))))))))))))))) (by kernel_rfl)
end Go.Proofs.Ytkemihfaohkoeaa.Am11
set_option linter.unusedVariables false
open Go Go.Proofs.Ytkemihfaohkoeaa.Am
namespace Go.Proofs.Ytkemihfaohkoeaa.Am11
theorem f49_F_0 {x0 : Int} {H : AHeap} {prot : Nat} {x7 : Int} (h1 : callInf cfg 61 [Value.int .u64 x0] (List.length H) H = some (Value.int .i64 x7, H)) : callInf cfg 49 [.int .u64 x0] prot H = some (Value.int .i64 x7, H) :=
  fn_of2 a49 [.b false, .v (.int .i64 x7)] (ai (Eq.refl false) (ai h1 (Eq.refl ((Value.int .i64 x7, H) : Value × AHeap)))) (by kernel_rfl) rfl
end Go.Proofs.Ytkemihfaohkoeaa.Am11
set_option linter.unusedVariables false
open Go Go.Proofs.Ytkemihfaohkoeaa.Am
namespace Go.Proofs.Ytkemihfaohkoeaa.Am11
theorem f51_F_0 {x0a : Option Addr} {x0n x0c : Nat} {x1 x2 : Int} {H : AHeap} {prot : Nat} {H1 : AHeap} (h1 : Fit .i64 (x1 + 1)) (h2 : lpInf (lpOf cfg a51 0 prot H) ([Value.slice x0a x0n x0c, Value.int .i64 x1, Value.int .i64 x2, Value.int .i64 (x1 + 1)], H) = some (Ex.exit 0, [], H1)) : callInf cfg 51 [.slice x0a x0n x0c, .int .i64 x1, .int .i64 x2] prot H = some (Value.tuple { toList := [] }, H1) :=
  fn_of2 a51 [.e, .lo (.exit 0, [], H1)] (ai h1 (ai h2 (Eq.refl ((Value.tuple { toList := [] }, H1) : Value × AHeap)))) (by kernel_rfl) rfl
theorem f51_L0_0 {x0a : Option Addr} {x0n x0c : Nat} {x1 x2 x6 : Int} {H0 : AHeap} {prot : Nat} {H : AHeap} {z0a : Option Addr} {z0n z0c : Nat} {z1 z2 z6 : Int} {H2 : AHeap} (h1 : x6 < x2) (h2 : lpInf (lpOf cfg a51 1 prot H0) ([Value.slice x0a x0n x0c, Value.int .i64 x1, Value.int .i64 x2, Value.int .i64 x6, Value.int .i64 x6], H) = some (Ex.exit 2, [Value.slice z0a z0n z0c, Value.int .i64 z1, Value.int .i64 z2, Value.int .i64 z6], H2)) (h3 : Fit .i64 (z6 + 1)) : lpOf cfg a51 0 prot H0 ([.slice x0a x0n x0c, .int .i64 x1, .int .i64 x2, .int .i64 x6], H) = some (Sum.inl ([Value.slice z0a z0n z0c, Value.int .i64 z1, Value.int .i64 z2, Value.int .i64 (z6 + 1)], H2)) :=
  lp_of2 [.e, .b true, .lo (.exit 2, [.slice z0a z0n z0c, .int .i64 z1, .int .i64 z2, .int .i64 z6], H2), .e] (ai (decide_eq_true h1) (ai h2 (ai h3 (Eq.refl (Sum.inl ([Value.slice z0a z0n z0c, Value.int .i64 z1, Value.int .i64 z2, Value.int .i64 (z6 + 1)], H2) : LS ⊕ LO))))) (by kernel_rfl)
theorem f51_L0_1 {x0a : Option Addr} {x0n x0c : Nat} {x1 x2 x6 : Int} {H0 : AHeap} {prot : Nat} {H : AHeap} (h1 : ¬(x6 < x2)) : lpOf cfg a51 0 prot H0 ([.slice x0a x0n x0c, .int .i64 x1, .int .i64 x2, .int .i64 x6], H) = some (Sum.inr (Ex.exit 0, [], H)) :=
  lp_of2 [.e, .b false] (ai (decide_eq_false h1) (Eq.refl (Sum.inr (Ex.exit 0, [], H) : LS ⊕ LO))) (by kernel_rfl)
theorem f51_L1_1 {x0a : Option Addr} {x0n x0c : Nat} {x1 x2 x6 x7 : Int} {H0 : AHeap} {prot : Nat} {H : AHeap} {x22p x22o x22l : Nat} {x23 : Int} {x27p x27o x27l : Nat} {x28 : Int} {x29 : Bool} (h1 : x7 > x1) (h2 : aindexAddr cfg.P 34 (Value.slice x0a x0n x0c) (Value.int .i64 x7) = some (Value.pointer (some ⟨x22p, x22o, some x22l⟩))) (h3 : getCells H x22p x22l x22o 1 = some [Value.int .i64 x23]) (h4 : Fit .i64 (x7 - 1)) (h5 : aindexAddr cfg.P 34 (Value.slice x0a x0n x0c) (Value.int .i64 (x7 - 1)) = some (Value.pointer (some ⟨x27p, x27o, some x27l⟩))) (h6 : getCells H x27p x27l x27o 1 = some [Value.int .i64 x28]) (h7 : callInf cfg 57 [Value.int .i64 x23, Value.int .i64 x28] prot H = some (Value.bool x29, H)) (h8 : x29 = false) : lpOf cfg a51 1 prot H0 ([.slice x0a x0n x0c, .int .i64 x1, .int .i64 x2, .int .i64 x6, .int .i64 x7], H) = some (Sum.inr (Ex.exit 2, [Value.slice x0a x0n x0c, Value.int .i64 x1, Value.int .i64 x2, Value.int .i64 x6], H)) :=
  lp_of2 [.e, .b true, .b true, .b true, .v (.pointer (some ⟨x22p, x22o, some x22l⟩)), .b true, .v (.int .i64 x23), .b true, .b true, .b true, .e, .b true, .v (.pointer (some ⟨x27p, x27o, some x27l⟩)), .b true, .v (.int .i64 x28), .b true, .v (.bool x29), .b true, .b false] (ai (decide_eq_true h1) (ai (decide_eq_true h1) (ai (decide_eq_true h1) (ai h2 (ai (decide_eq_true h1) (ai h3 (ai (decide_eq_true h1) (ai (decide_eq_true h1) (ai (decide_eq_true h1) (ai h4 (ai (decide_eq_true h1) (ai h5 (ai (decide_eq_true h1) (ai h6 (ai (decide_eq_true h1) (ai h7 (ai (decide_eq_true h1) (ai h8 (Eq.refl (Sum.inr (Ex.exit 2, [Value.slice x0a x0n x0c, Value.int .i64 x1, Value.int .i64 x2, Value.int .i64 x6], H) : LS ⊕ LO)))))))))))))))))))) (by kernel_rfl)
end Go.Proofs.Ytkemihfaohkoeaa.Am11
set_option linter.unusedVariables false
open Go Go.Proofs.Ytkemihfaohkoeaa.Am
namespace Go.Proofs.Ytkemihfaohkoeaa.Am11
theorem f54_F_0 {x0a : Option Addr} {x0n x0c : Nat} {x1 x2 : Int} {H : AHeap} {prot : Nat} {x37 x40 x43 x48 x49 : Int} (h1 : Fit .i64 (x2 - x1)) (h2 : Fit .i64 ((x2 - x1).tdiv 4)) (h3 : Fit .i64 ((x2 - x1).tdiv 4 * 1)) (h4 : Fit .i64 (x1 + (x2 - x1).tdiv 4 * 1)) (h5 : Fit .i64 ((x2 - x1).tdiv 4 * 2)) (h6 : Fit .i64 (x1 + (x2 - x1).tdiv 4 * 2)) (h7 : Fit .i64 ((x2 - x1).tdiv 4 * 3)) (h8 : Fit .i64 (x1 + (x2 - x1).tdiv 4 * 3)) (h9 : x2 - x1 ≥ 8) (h10 : x2 - x1 ≥ 50) (h11 : callInf cfg 65 [Value.slice x0a x0n x0c, Value.int .i64 (x1 + (x2 - x1).tdiv 4 * 1), Value.pointer (some ⟨List.length H, 0, some [Value.int .i64 0].length⟩)] (List.length H) (H ++ [vo [Value.int .i64 0] 3]) = some (Value.int .i64 x37, H ++ [vo [Value.int .i64 0] 3])) (h12 : callInf cfg 65 [Value.slice x0a x0n x0c, Value.int .i64 (x1 + (x2 - x1).tdiv 4 * 2), Value.pointer (some ⟨List.length H, 0, some [Value.int .i64 0].length⟩)] (List.length H) (H ++ [vo [Value.int .i64 0] 3]) = some (Value.int .i64 x40, H ++ [vo [Value.int .i64 0] 3])) (h13 : callInf cfg 65 [Value.slice x0a x0n x0c, Value.int .i64 (x1 + (x2 - x1).tdiv 4 * 3), Value.pointer (some ⟨List.length H, 0, some [Value.int .i64 0].length⟩)] (List.length H) (H ++ [vo [Value.int .i64 0] 3]) = some (Value.int .i64 x43, H ++ [vo [Value.int .i64 0] 3])) (h14 : callInf cfg 66 [Value.slice x0a x0n x0c, Value.int .i64 x37, Value.int .i64 x40, Value.int .i64 x43, Value.pointer (some ⟨List.length H, 0, some [Value.int .i64 0].length⟩)] (List.length H) (H ++ [vo [Value.int .i64 0] 3]) = some (Value.int .i64 x48, H ++ [vo [Value.int .i64 0] 3])) (h15 : getCells (H ++ [vo [Value.int .i64 0] 3]) (List.length H) [Value.int .i64 0].length 0 1 = some [Value.int .i64 x49]) (h16 : (x49 == 0) = true) : callInf cfg 54 [.slice x0a x0n x0c, .int .i64 x1, .int .i64 x2] prot H = some (Value.tuple { toList := [Value.int .i64 x48, Value.int .i64 1] }, H) :=
  fn_of2 a54 [.e, .e, .e, .e, .e, .e, .e, .e, .e, .e, .e, .e, .b true, .e, .b true, .v (.int .i64 x37), .v (.int .i64 x40), .v (.int .i64 x43), .v (.int .i64 x48), .v (.int .i64 x49), .e, .b true] (ai h1 (ai (show (4 : Int) ≠ 0 by decide) (ai h2 (ai h3 (ai h4 (ai (show (4 : Int) ≠ 0 by decide) (ai h2 (ai h5 (ai h6 (ai (show (4 : Int) ≠ 0 by decide) (ai h2 (ai h7 (ai h8 (ai (decide_eq_true h9) (ai (decide_eq_true h10) (ai h11 (ai h12 (ai h13 (ai h14 (ai h15 (ai h16 (Eq.refl ((Value.tuple { toList := [Value.int .i64 x48, Value.int .i64 1] }, H) : Value × AHeap))))))))))))))))))))))) (by kernel_rfl) rfl
theorem f54_F_3 {x0a : Option Addr} {x0n x0c : Nat} {x1 x2 : Int} {H : AHeap} {prot : Nat} {x48 x49 : Int} (h1 : Fit .i64 (x2 - x1)) (h2 : Fit .i64 ((x2 - x1).tdiv 4)) (h3 : Fit .i64 ((x2 - x1).tdiv 4 * 1)) (h4 : Fit .i64 (x1 + (x2 - x1).tdiv 4 * 1)) (h5 : Fit .i64 ((x2 - x1).tdiv 4 * 2)) (h6 : Fit .i64 (x1 + (x2 - x1).tdiv 4 * 2)) (h7 : Fit .i64 ((x2 - x1).tdiv 4 * 3)) (h8 : Fit .i64 (x1 + (x2 - x1).tdiv 4 * 3)) (h9 : x2 - x1 ≥ 8) (h10 : ¬(x2 - x1 ≥ 50)) (h11 : callInf cfg 66 [Value.slice x0a x0n x0c, Value.int .i64 (x1 + (x2 - x1).tdiv 4 * 1), Value.int .i64 (x1 + (x2 - x1).tdiv 4 * 2), Value.int .i64 (x1 + (x2 - x1).tdiv 4 * 3), Value.pointer (some ⟨List.length H, 0, some [Value.int .i64 0].length⟩)] (List.length H) (H ++ [vo [Value.int .i64 0] 3]) = some (Value.int .i64 x48, H ++ [vo [Value.int .i64 0] 3])) (h12 : getCells (H ++ [vo [Value.int .i64 0] 3]) (List.length H) [Value.int .i64 0].length 0 1 = some [Value.int .i64 x49]) (h13 : (x49 == 0) = true) : callInf cfg 54 [.slice x0a x0n x0c, .int .i64 x1, .int .i64 x2] prot H = some (Value.tuple { toList := [Value.int .i64 x48, Value.int .i64 1] }, H) :=
  fn_of2 a54 [.e, .e, .e, .e, .e, .e, .e, .e, .e, .e, .e, .e, .b true, .e, .b false, .v (.int .i64 x48), .v (.int .i64 x49), .e, .b true] (ai h1 (ai (show (4 : Int) ≠ 0 by decide) (ai h2 (ai h3 (ai h4 (ai (show (4 : Int) ≠ 0 by decide) (ai h2 (ai h5 (ai h6 (ai (show (4 : Int) ≠ 0 by decide) (ai h2 (ai h7 (ai h8 (ai (decide_eq_true h9) (ai (decide_eq_false h10) (ai h11 (ai h12 (ai h13 (Eq.refl ((Value.tuple { toList := [Value.int .i64 x48, Value.int .i64 1] }, H) : Value × AHeap)))))))))))))))))))) (by kernel_rfl) rfl
end Go.Proofs.Ytkemihfaohkoeaa.Am11
set_option linter.unusedVariables false
open Go Go.Proofs.Ytkemihfaohkoeaa.Am
namespace Go.Proofs.Ytkemihfaohkoeaa.Am11
theorem f56_F_1 {x0a : Option Addr} {x0n x0c : Nat} {x1 x2 : Int} {H : AHeap} {prot : Nat} {z6 : Bool} {H1 : AHeap} (h1 : Fit .i64 (x1 + 1)) (h2 : lpInf (lpOf cfg a56 0 prot H) ([Value.slice x0a x0n x0c, Value.int .i64 x1, Value.int .i64 x2, Value.int .i64 (x1 + 1), Value.int .i64 0], H) = some (Ex.ret, [Value.bool z6], H1)) : callInf cfg 56 [.slice x0a x0n x0c, .int .i64 x1, .int .i64 x2] prot H = some (Value.bool z6, H1) :=
  fn_of2 a56 [.e, .lo (.ret, [.bool z6], H1)] (ai h1 (ai h2 (Eq.refl ((Value.bool z6, H1) : Value × AHeap)))) (by kernel_rfl) rfl
theorem f56_L0_0 {x0a : Option Addr} {x0n x0c : Nat} {x1 x2 x7 x8 : Int} {H0 : AHeap} {prot : Nat} {H : AHeap} {z0a : Option Addr} {z0n z0c : Nat} {z1 z2 z7 z8 : Int} {H2 : AHeap} (h1 : x8 < 5) (h2 : lpInf (lpOf cfg a56 1 prot H0) ([Value.slice x0a x0n x0c, Value.int .i64 x1, Value.int .i64 x2, Value.int .i64 x7, Value.int .i64 x8], H) = some (Ex.exit 2, [Value.slice z0a z0n z0c, Value.int .i64 z1, Value.int .i64 z2, Value.int .i64 z7, Value.int .i64 z8], H2)) (h3 : (z7 == z2) = true) : lpOf cfg a56 0 prot H0 ([.slice x0a x0n x0c, .int .i64 x1, .int .i64 x2, .int .i64 x7, .int .i64 x8], H) = some (Sum.inr (Ex.ret, [Value.bool true], H2)) :=
  lp_of2 [.e, .b true, .lo (.exit 2, [.slice z0a z0n z0c, .int .i64 z1, .int .i64 z2, .int .i64 z7, .int .i64 z8], H2), .e, .b true] (ai (decide_eq_true h1) (ai h2 (ai h3 (Eq.refl (Sum.inr (Ex.ret, [Value.bool true], H2) : LS ⊕ LO))))) (by kernel_rfl)
theorem f56_L1_1 {x0a : Option Addr} {x0n x0c : Nat} {x1 x2 x7 x8 : Int} {H0 : AHeap} {prot : Nat} {H : AHeap} {x23p x23o x23l : Nat} {x24 : Int} {x28p x28o x28l : Nat} {x29 : Int} {x30 : Bool} (h1 : x7 < x2) (h2 : aindexAddr cfg.P 34 (Value.slice x0a x0n x0c) (Value.int .i64 x7) = some (Value.pointer (some ⟨x23p, x23o, some x23l⟩))) (h3 : getCells H x23p x23l x23o 1 = some [Value.int .i64 x24]) (h4 : Fit .i64 (x7 - 1)) (h5 : aindexAddr cfg.P 34 (Value.slice x0a x0n x0c) (Value.int .i64 (x7 - 1)) = some (Value.pointer (some ⟨x28p, x28o, some x28l⟩))) (h6 : getCells H x28p x28l x28o 1 = some [Value.int .i64 x29]) (h7 : callInf cfg 57 [Value.int .i64 x24, Value.int .i64 x29] prot H = some (Value.bool x30, H)) (h8 : (!x30) = true) (h9 : Fit .i64 (x7 + 1)) : lpOf cfg a56 1 prot H0 ([.slice x0a x0n x0c, .int .i64 x1, .int .i64 x2, .int .i64 x7, .int .i64 x8], H) = some (Sum.inl ([Value.slice x0a x0n x0c, Value.int .i64 x1, Value.int .i64 x2, Value.int .i64 (x7 + 1), Value.int .i64 x8], H)) :=
  lp_of2 [.e, .b true, .b true, .b true, .v (.pointer (some ⟨x23p, x23o, some x23l⟩)), .b true, .v (.int .i64 x24), .b true, .b true, .b true, .e, .b true, .v (.pointer (some ⟨x28p, x28o, some x28l⟩)), .b true, .v (.int .i64 x29), .b true, .v (.bool x30), .b true, .e, .b true, .b true, .e] (ai (decide_eq_true h1) (ai (decide_eq_true h1) (ai (decide_eq_true h1) (ai h2 (ai (decide_eq_true h1) (ai h3 (ai (decide_eq_true h1) (ai (decide_eq_true h1) (ai (decide_eq_true h1) (ai h4 (ai (decide_eq_true h1) (ai h5 (ai (decide_eq_true h1) (ai h6 (ai (decide_eq_true h1) (ai h7 (ai (decide_eq_true h1) (ai (decide_eq_true h1) (ai h8 (ai h9 (Eq.refl (Sum.inl ([Value.slice x0a x0n x0c, Value.int .i64 x1, Value.int .i64 x2, Value.int .i64 (x7 + 1), Value.int .i64 x8], H) : LS ⊕ LO)))))))))))))))))))))) (by kernel_rfl)
theorem f56_L1_2 {x0a : Option Addr} {x0n x0c : Nat} {x1 x2 x7 x8 : Int} {H0 : AHeap} {prot : Nat} {H : AHeap} (h1 : ¬(x7 < x2)) : lpOf cfg a56 1 prot H0 ([.slice x0a x0n x0c, .int .i64 x1, .int .i64 x2, .int .i64 x7, .int .i64 x8], H) = some (Sum.inr (Ex.exit 2, [Value.slice x0a x0n x0c, Value.int .i64 x1, Value.int .i64 x2, Value.int .i64 x7, Value.int .i64 x8], H)) :=
  lp_of2 [.e, .b false, .b false, .b false, .b false, .b false, .b false, .b false, .b false, .b false, .b false, .b false, .b false, .b false] (ai (decide_eq_false h1) (ai (decide_eq_false h1) (ai (decide_eq_false h1) (ai (decide_eq_false h1) (ai (decide_eq_false h1) (ai (decide_eq_false h1) (ai (decide_eq_false h1) (ai (decide_eq_false h1) (ai (decide_eq_false h1) (ai (decide_eq_false h1) (ai (decide_eq_false h1) (ai (decide_eq_false h1) (ai (Eq.refl false) (Eq.refl (Sum.inr (Ex.exit 2, [Value.slice x0a x0n x0c, Value.int .i64 x1, Value.int .i64 x2, Value.int .i64 x7, Value.int .i64 x8], H) : LS ⊕ LO))))))))))))))) (by kernel_rfl)
end Go.Proofs.Ytkemihfaohkoeaa.Am11
set_option linter.unusedVariables false
open Go Go.Proofs.Ytkemihfaohkoeaa.Am
namespace Go.Proofs.Ytkemihfaohkoeaa.Am11
theorem f57_F_2 {x0 x1 : Int} {H : AHeap} {prot : Nat} {x6 : Bool} (h1 : callInf cfg 67 [Value.int .i64 x0] (List.length H) H = some (Value.bool x6, H)) (h2 : x6 = false) : callInf cfg 57 [.int .i64 x0, .int .i64 x1] prot H = some (Value.bool (decide (x0 < x1)), H) :=
  fn_of2 a57 [.v (.bool x6), .b false, .b false, .b false, .b false, .b false, .b false, .b false, .e, .b false] (ai h1 (ai h2 (ai h2 (ai h2 (ai h2 (ai (Eq.refl false) (ai (Eq.refl false) (ai (Eq.refl false) (ai (Eq.refl false) (Eq.refl ((Value.bool (decide (x0 < x1)), H) : Value × AHeap))))))))))) (by kernel_rfl) rfl
end Go.Proofs.Ytkemihfaohkoeaa.Am11
set_option linter.unusedVariables false
open Go Go.Proofs.Ytkemihfaohkoeaa.Am
namespace Go.Proofs.Ytkemihfaohkoeaa.Am11
def T8 : ByteArray := ⟨⟨[0, 1, 2, 2, 3, 3, 3, 3, 4, 4, 4, 4, 4, 4, 4, 4, 5, 5, 5, 5, 5, 5, 5, 5, 5, 5, 5, 5, 5, 5, 5, 5, 6, 6, 6, 6, 6, 6, 6, 6, 6, 6, 6, 6, 6, 6, 6, 6, 6, 6, 6, 6, 6, 6, 6, 6, 6, 6, 6, 6, 6, 6, 6, 6, 7, 7, 7, 7, 7, 7, 7, 7, 7, 7, 7, 7, 7, 7, 7, 7, 7, 7, 7, 7, 7, 7, 7, 7, 7, 7, 7, 7, 7, 7, 7, 7, 7, 7, 7, 7, 7, 7, 7, 7, 7, 7, 7, 7, 7, 7, 7, 7, 7, 7, 7, 7, 7, 7, 7, 7, 7, 7, 7, 7, 7, 7, 7, 7, 8, 8, 8, 8, 8, 8, 8, 8, 8, 8, 8, 8, 8, 8, 8, 8, 8, 8, 8, 8, 8, 8, 8, 8, 8, 8, 8, 8, 8, 8, 8, 8, 8, 8, 8, 8, 8, 8, 8, 8, 8, 8, 8, 8, 8, 8, 8, 8, 8, 8, 8, 8, 8, 8, 8, 8, 8, 8, 8, 8, 8, 8, 8, 8, 8, 8, 8, 8, 8, 8, 8, 8, 8, 8, 8, 8, 8, 8, 8, 8, 8, 8, 8, 8, 8, 8, 8, 8, 8, 8, 8, 8, 8, 8, 8, 8, 8, 8, 8, 8, 8, 8, 8, 8, 8, 8, 8, 8, 8, 8, 8, 8, 8, 8, 8, 8, 8, 8, 8, 8, 8, 8, 8, 8, 8, 8, 8, 8]⟩⟩
theorem f61_F_5 {x0 : Int} {H : AHeap} {prot : Nat} (h1 : ¬(x0 ≥ 4294967296)) (h2 : x0 ≥ 65536) (h3 : (0 : Int) ≤ 16) (h4 : Fit .i64 (0 + 16)) (h5 : ¬(x0.fdiv (2 ^ min (Int.toNat 16) IntKind.u64.bits) ≥ 256)) (h6 : 0 ≤ IntKind.u8.wrap (x0.fdiv (2 ^ min (Int.toNat 16) IntKind.u64.bits))) (h7 : IntKind.u8.wrap (x0.fdiv (2 ^ min (Int.toNat 16) IntKind.u64.bits)) < (↑T8.size : Int)) (h8 : Fit .i64 (↑(T8.get! (IntKind.u8.wrap (x0.fdiv (2 ^ min (Int.toNat 16) IntKind.u64.bits))).toNat).toNat : Int)) (h9 : Fit .i64 (0 + 16 + (↑(T8.get! (IntKind.u8.wrap (x0.fdiv (2 ^ min (Int.toNat 16) IntKind.u64.bits))).toNat).toNat : Int))) : callInf cfg 61 [.int .u64 x0] prot H = some (Value.int .i64 (0 + 16 + (↑(T8.get! (IntKind.u8.wrap (x0.fdiv (2 ^ min (Int.toNat 16) IntKind.u64.bits))).toNat).toNat : Int)), H) :=
  fn_of2 a61 [.e, .b false, .e, .b true, .e, .e, .e, .b false, .e, .e, .e, .e] (ai (decide_eq_false h1) (ai (decide_eq_true h2) (ai h3 (ai h4 (ai (decide_eq_false h5) (ai h6 (ai h7 (ai h8 (ai h9 (Eq.refl ((Value.int .i64 (0 + 16 + (↑(T8.get! (IntKind.u8.wrap (x0.fdiv (2 ^ min (Int.toNat 16) IntKind.u64.bits))).toNat).toNat : Int)), H) : Value × AHeap))))))))))) (by kernel_rfl) rfl
theorem f61_F_6 {x0 : Int} {H : AHeap} {prot : Nat} (h1 : ¬(x0 ≥ 4294967296)) (h2 : ¬(x0 ≥ 65536)) (h3 : x0 ≥ 256) (h4 : (0 : Int) ≤ 8) (h5 : Fit .i64 (0 + 8)) (h6 : 0 ≤ IntKind.u8.wrap (x0.fdiv (2 ^ min (Int.toNat 8) IntKind.u64.bits))) (h7 : IntKind.u8.wrap (x0.fdiv (2 ^ min (Int.toNat 8) IntKind.u64.bits)) < (↑T8.size : Int)) (h8 : Fit .i64 (↑(T8.get! (IntKind.u8.wrap (x0.fdiv (2 ^ min (Int.toNat 8) IntKind.u64.bits))).toNat).toNat : Int)) (h9 : Fit .i64 (0 + 8 + (↑(T8.get! (IntKind.u8.wrap (x0.fdiv (2 ^ min (Int.toNat 8) IntKind.u64.bits))).toNat).toNat : Int))) : callInf cfg 61 [.int .u64 x0] prot H = some (Value.int .i64 (0 + 8 + (↑(T8.get! (IntKind.u8.wrap (x0.fdiv (2 ^ min (Int.toNat 8) IntKind.u64.bits))).toNat).toNat : Int)), H) :=
  fn_of2 a61 [.e, .b false, .e, .b false, .e, .b true, .e, .e, .e, .e, .e, .e] (ai (decide_eq_false h1) (ai (decide_eq_false h2) (ai (decide_eq_true h3) (ai h4 (ai h5 (ai h6 (ai h7 (ai h8 (ai h9 (Eq.refl ((Value.int .i64 (0 + 8 + (↑(T8.get! (IntKind.u8.wrap (x0.fdiv (2 ^ min (Int.toNat 8) IntKind.u64.bits))).toNat).toNat : Int)), H) : Value × AHeap))))))))))) (by kernel_rfl) rfl
theorem f61_F_7 {x0 : Int} {H : AHeap} {prot : Nat} (h1 : ¬(x0 ≥ 4294967296)) (h2 : ¬(x0 ≥ 65536)) (h3 : ¬(x0 ≥ 256)) (h4 : 0 ≤ IntKind.u8.wrap x0) (h5 : IntKind.u8.wrap x0 < (↑T8.size : Int)) (h6 : Fit .i64 (↑(T8.get! (IntKind.u8.wrap x0).toNat).toNat : Int)) (h7 : Fit .i64 (0 + (↑(T8.get! (IntKind.u8.wrap x0).toNat).toNat : Int))) : callInf cfg 61 [.int .u64 x0] prot H = some (Value.int .i64 (0 + (↑(T8.get! (IntKind.u8.wrap x0).toNat).toNat : Int)), H) :=
  fn_of2 a61 [.e, .b false, .e, .b false, .e, .b false, .e, .e, .e, .e] (ai (decide_eq_false h1) (ai (decide_eq_false h2) (ai (decide_eq_false h3) (ai h4 (ai h5 (ai h6 (ai h7 (Eq.refl ((Value.int .i64 (0 + (↑(T8.get! (IntKind.u8.wrap x0).toNat).toNat : Int)), H) : Value × AHeap))))))))) (by kernel_rfl) rfl
end Go.Proofs.Ytkemihfaohkoeaa.Am11
set_option linter.unusedVariables false
open Go Go.Proofs.Ytkemihfaohkoeaa.Am
namespace Go.Proofs.Ytkemihfaohkoeaa.Am11
theorem f65_F_0 {x0a : Option Addr} {x0n x0c : Nat} {x1 : Int} {x2p x2o x2l : Nat} {H : AHeap} {prot : Nat} {x14 : Int} (h1 : Fit .i64 (x1 - 1)) (h2 : Fit .i64 (x1 + 1)) (h3 : callInf cfg 66 [Value.slice x0a x0n x0c, Value.int .i64 (x1 - 1), Value.int .i64 x1, Value.int .i64 (x1 + 1), Value.pointer (some ⟨x2p, x2o, some x2l⟩)] (List.length H) H = some (Value.int .i64 x14, H)) : callInf cfg 65 [.slice x0a x0n x0c, .int .i64 x1, .pointer (some ⟨x2p, x2o, some x2l⟩)] prot H = some (Value.int .i64 x14, H) :=
  fn_of2 a65 [.e, .e, .v (.int .i64 x14)] (ai h1 (ai h2 (ai h3 (Eq.refl ((Value.int .i64 x14, H) : Value × AHeap))))) (by kernel_rfl) rfl
end Go.Proofs.Ytkemihfaohkoeaa.Am11
set_option linter.unusedVariables false
open Go Go.Proofs.Ytkemihfaohkoeaa.Am
namespace Go.Proofs.Ytkemihfaohkoeaa.Am11
theorem f66_F_0 {x0a : Option Addr} {x0n x0c : Nat} {x1 x2 x3 : Int} {x4p x4o x4l : Nat} {H : AHeap} {prot : Nat} {x16a x16b x24a x24b x32a x32b : Int} (h1 : callInf cfg 68 [Value.slice x0a x0n x0c, Value.int .i64 x1, Value.int .i64 x2, Value.pointer (some ⟨x4p, x4o, some x4l⟩)] (List.length H) H = some (Value.tuple { toList := [Value.int .i64 x16a, Value.int .i64 x16b] }, H)) (h2 : callInf cfg 68 [Value.slice x0a x0n x0c, Value.int .i64 x16b, Value.int .i64 x3, Value.pointer (some ⟨x4p, x4o, some x4l⟩)] (List.length H) H = some (Value.tuple { toList := [Value.int .i64 x24a, Value.int .i64 x24b] }, H)) (h3 : callInf cfg 68 [Value.slice x0a x0n x0c, Value.int .i64 x16a, Value.int .i64 x24a, Value.pointer (some ⟨x4p, x4o, some x4l⟩)] (List.length H) H = some (Value.tuple { toList := [Value.int .i64 x32a, Value.int .i64 x32b] }, H)) : callInf cfg 66 [.slice x0a x0n x0c, .int .i64 x1, .int .i64 x2, .int .i64 x3, .pointer (some ⟨x4p, x4o, some x4l⟩)] prot H = some (Value.int .i64 x32b, H) :=
  fn_of2 a66 [.v (.tuple #[.int .i64 x16a, .int .i64 x16b]), .v (.tuple #[.int .i64 x24a, .int .i64 x24b]), .v (.tuple #[.int .i64 x32a, .int .i64 x32b])] (ai h1 (ai h2 (ai h3 (Eq.refl ((Value.int .i64 x32b, H) : Value × AHeap))))) (by kernel_rfl) rfl
end Go.Proofs.Ytkemihfaohkoeaa.Am11
set_option linter.unusedVariables false
open Go Go.Proofs.Ytkemihfaohkoeaa.Am
namespace Go.Proofs.Ytkemihfaohkoeaa.Am11
theorem f67_F_0 {x0 : Int} {H : AHeap} {prot : Nat}  : callInf cfg 67 [.int .i64 x0] prot H = some (Value.bool (x0 != x0), H) :=
  fn_of2 a67 [.e] (Eq.refl ((Value.bool (x0 != x0), H) : Value × AHeap)) (by kernel_rfl) rfl
end Go.Proofs.Ytkemihfaohkoeaa.Am11
set_option linter.unusedVariables false
open Go Go.Proofs.Ytkemihfaohkoeaa.Am
namespace Go.Proofs.Ytkemihfaohkoeaa.Am11
theorem f68_F_1 {x0a : Option Addr} {x0n x0c : Nat} {x1 x2 : Int} {x3p x3o x3l : Nat} {H : AHeap} {prot x12p x12o x12l : Nat} {x13 : Int} {x16p x16o x16l : Nat} {x17 : Int} {x18 : Bool} (h1 : aindexAddr cfg.P 34 (Value.slice x0a x0n x0c) (Value.int .i64 x2) = some (Value.pointer (some ⟨x12p, x12o, some x12l⟩))) (h2 : getCells H x12p x12l x12o 1 = some [Value.int .i64 x13]) (h3 : aindexAddr cfg.P 34 (Value.slice x0a x0n x0c) (Value.int .i64 x1) = some (Value.pointer (some ⟨x16p, x16o, some x16l⟩))) (h4 : getCells H x16p x16l x16o 1 = some [Value.int .i64 x17]) (h5 : callInf cfg 57 [Value.int .i64 x13, Value.int .i64 x17] (List.length H) H = some (Value.bool x18, H)) (h6 : x18 = false) : callInf cfg 68 [.slice x0a x0n x0c, .int .i64 x1, .int .i64 x2, .pointer (some ⟨x3p, x3o, some x3l⟩)] prot H = some (Value.tuple { toList := [Value.int .i64 x1, Value.int .i64 x2] }, H) :=
  fn_of2 a68 [.v (.pointer (some ⟨x12p, x12o, some x12l⟩)), .v (.int .i64 x13), .v (.pointer (some ⟨x16p, x16o, some x16l⟩)), .v (.int .i64 x17), .v (.bool x18), .b false] (ai h1 (ai h2 (ai h3 (ai h4 (ai h5 (ai h6 (Eq.refl ((Value.tuple { toList := [Value.int .i64 x1, Value.int .i64 x2] }, H) : Value × AHeap)))))))) (by kernel_rfl) rfl
end Go.Proofs.Ytkemihfaohkoeaa.Am11
namespace Go.Proofs.Ytkemihfaohkoeaa.Am11
open Go Go.Proofs.Ytkemihfaohkoeaa.Am
/-! A list that rises is sorted: it stays. -/
def Ris (l : List Nat) : Prop := ∀ i j, i ≤ j → j < l.length → l.getD i 0 ≤ l.getD j 0
theorem nl_at {l : List Nat} {i : Nat} (h : i < l.length) : (il (nl l))[i]? = some (.int .i64 ((l.getD i 0 : Nat) : Int)) := by
  unfold il nl
  rw [List.getElem?_map, List.getElem?_map, List.getElem?_eq_getElem h, List.getD_eq_getElem?_getD, List.getElem?_eq_getElem h]; rfl
theorem c57 (x y : Nat) (prot : Nat) (H : AHeap) : callInf cfg 57 [.int .i64 x, .int .i64 y] prot H = some (.bool (decide ((x : Int) < (y : Int))), H) := by
  exact f57_F_2 (x6 := ((x : Int) != (x : Int))) f67_F_0 (by simp)
theorem c57_no {x y : Nat} (h : y ≤ x) (prot : Nat) (H : AHeap) : callInf cfg 57 [.int .i64 x, .int .i64 y] prot H = some (.bool false, H) := by
  rw [c57, decide_eq_false (by omega)]
theorem rd_prev {H : AHeap} {x : Value} {L : List Nat} (hx : Rd H 3 1 x L.length (il (nl L))) {i : Nat} (hi : i < L.length) (hp : 0 < i) :
    ∃ id M, aindexAddr cfg.P 34 x (.int .i64 ((i : Int) - 1)) = some (.pointer (some ⟨id, i - 1, some M⟩)) ∧ getCells H id M (i - 1) 1 = some [.int .i64 ((L.getD (i - 1) 0 : Nat) : Int)] := by
  obtain ⟨id, M, a, b⟩ := rd_at T34 hx (nl_at (show i - 1 < L.length by omega))
  exact ⟨id, M, by rw [show (i : Int) - 1 = ((i - 1 : Nat) : Int) by omega]; exact a, b⟩
theorem loop51 {L : List Nat} (hs : Ris L) (hn : L.length ≤ 100000000) {x : Value} {H0 H : AHeap} {prot : Nat} (hx : Rd H 3 1 x L.length (il (nl L))) : ∀ (d i : Nat), i + d = L.length → 0 < i →
    lpInf (lpOf cfg a51 0 prot H0) ([x, .int .i64 0, .int .i64 L.length, .int .i64 i], H) = some (.exit 0, [], H)
  | 0, i, hi, hp => by
    obtain ⟨_, _, rfl⟩ := hx.len
    exact lp_last (f51_L0_1 (by omega))
  | d + 1, i, hi, hp => by
    have hil : i < L.length := by omega
    obtain ⟨i1, M1, a1, a2⟩ := rd_at T34 hx (nl_at hil)
    obtain ⟨i2, M2, b1, b2⟩ := rd_prev hx hil hp
    have h57 := c57_no (hs (i - 1) i (by omega) hil) prot H
    have ih := loop51 hs hn hx (H0 := H0) (prot := prot) d (i + 1) (by omega) (by omega)
    obtain ⟨_, _, rfl⟩ := hx.len
    refine lp_next (f51_L0_0 (by omega) (lp_last (f51_L1_1 (by omega) a1 a2 (fit64 (by omega) (by omega)) b1 b2 h57 rfl)) (fit64 (by omega) (by omega))) ih
theorem c51 {L : List Nat} (hs : Ris L) (hn : L.length ≤ 100000000) {x : Value} (prot : Nat) {H : AHeap} (hx : Rd H 3 1 x L.length (il (nl L))) :
    callInf cfg 51 [x, .int .i64 0, .int .i64 L.length] prot H = some (.tuple #[], H) := by
  have key : lpInf (lpOf cfg a51 0 prot H) ([x, .int .i64 0, .int .i64 L.length, .int .i64 (0 + 1)], H) = some (.exit 0, [], H) := by
    by_cases h : 0 < L.length
    · exact loop51 hs hn hx (H0 := H) (prot := prot) (L.length - 1) 1 (by omega) (by omega)
    · obtain ⟨_, _, rfl⟩ := hx.len
      exact lp_last (f51_L0_1 (by omega))
  obtain ⟨_, _, rfl⟩ := hx.len
  exact f51_F_0 (fit64 (by omega) (by omega)) key

theorem loop56 {L : List Nat} (hs : Ris L) (hn : L.length ≤ 100000000) {x : Value} {H0 H : AHeap} {prot : Nat} {j : Int} (hx : Rd H 3 1 x L.length (il (nl L))) : ∀ (d i : Nat), i + d = L.length → 0 < i →
    lpInf (lpOf cfg a56 1 prot H0) ([x, .int .i64 0, .int .i64 L.length, .int .i64 i, .int .i64 j], H) = some (.exit 2, [x, .int .i64 0, .int .i64 L.length, .int .i64 L.length, .int .i64 j], H)
  | 0, i, hi, hp => by
    have he : i = L.length := by omega
    subst he
    obtain ⟨_, _, rfl⟩ := hx.len
    exact lp_last (f56_L1_2 (by omega))
  | d + 1, i, hi, hp => by
    have hil : i < L.length := by omega
    obtain ⟨i1, M1, a1, a2⟩ := rd_at T34 hx (nl_at hil)
    obtain ⟨i2, M2, b1, b2⟩ := rd_prev hx hil hp
    have h57 := c57_no (hs (i - 1) i (by omega) hil) prot H
    have ih := loop56 hs hn hx (H0 := H0) (prot := prot) (j := j) d (i + 1) (by omega) (by omega)
    obtain ⟨_, _, rfl⟩ := hx.len
    exact lp_next (f56_L1_1 (by omega) a1 a2 (fit64 (by omega) (by omega)) b1 b2 h57 rfl (fit64 (by omega) (by omega))) ih
theorem c56 {L : List Nat} (hs : Ris L) (hn : L.length ≤ 100000000) (h0 : 0 < L.length) {x : Value} (prot : Nat) {H : AHeap} (hx : Rd H 3 1 x L.length (il (nl L))) :
    callInf cfg 56 [x, .int .i64 0, .int .i64 L.length] prot H = some (.bool true, H) := by
  have key := loop56 hs hn hx (H0 := H) (prot := prot) (j := 0) (L.length - 1) 1 (by omega) (by omega)
  obtain ⟨_, _, rfl⟩ := hx.len
  exact f56_F_1 (fit64 (by omega) (by omega)) (lp_last (f56_L0_0 (by omega) key (by simp)))

theorem c68 {L : List Nat} (hs : Ris L) {x : Value} (prot : Nat) {H : AHeap} (hx : Rd H 3 1 x L.length (il (nl L))) {a b p q r : Nat} (hab : a ≤ b) (hb : b < L.length) :
    callInf cfg 68 [x, .int .i64 a, .int .i64 b, .pointer (some ⟨p, q, some r⟩)] prot H = some (.tuple #[.int .i64 a, .int .i64 b], H) := by
  obtain ⟨i1, M1, a1, a2⟩ := rd_at T34 hx (nl_at hb)
  obtain ⟨i2, M2, b1, b2⟩ := rd_at T34 hx (nl_at (show a < L.length by omega))
  have h57 := c57_no (hs a b hab hb) H.length H
  obtain ⟨_, _, rfl⟩ := hx.len
  exact f68_F_1 a1 a2 b1 b2 h57 rfl
theorem c66 {L : List Nat} (hs : Ris L) {x : Value} (prot : Nat) {H : AHeap} (hx : Rd H 3 1 x L.length (il (nl L))) {a b c p q r : Nat} (hab : a ≤ b) (hbc : b ≤ c) (hc : c < L.length) :
    callInf cfg 66 [x, .int .i64 a, .int .i64 b, .int .i64 c, .pointer (some ⟨p, q, some r⟩)] prot H = some (.int .i64 b, H) := by
  have h1 := c68 hs H.length hx (p := p) (q := q) (r := r) hab (show b < L.length by omega)
  have h2 := c68 hs H.length hx (p := p) (q := q) (r := r) hbc hc
  obtain ⟨_, _, rfl⟩ := hx.len
  exact f66_F_0 h1 h2 h1
theorem c65 {L : List Nat} (hs : Ris L) (hn : L.length ≤ 100000000) {x : Value} (prot : Nat) {H : AHeap} (hx : Rd H 3 1 x L.length (il (nl L))) {i p q r : Nat} (h0 : 0 < i) (hi : i + 1 < L.length) {z : Int} (hz : z = i) :
    callInf cfg 65 [x, .int .i64 z, .pointer (some ⟨p, q, some r⟩)] prot H = some (.int .i64 i, H) := by
  subst hz
  have h1 := c66 hs H.length hx (p := p) (q := q) (r := r) (a := i - 1) (b := i) (c := i + 1) (by omega) (by omega) hi
  rw [show ((i - 1 : Nat) : Int) = (i : Int) - 1 by omega, show ((i + 1 : Nat) : Int) = (i : Int) + 1 by omega] at h1
  obtain ⟨_, _, rfl⟩ := hx.len
  exact f65_F_0 (fit64 (by omega) (by omega)) (fit64 (by omega) (by omega)) h1
theorem c54 {L : List Nat} (hs : Ris L) (hn : L.length ≤ 100000000) (h0 : 13 ≤ L.length) {x : Value} (prot : Nat) {H : AHeap} (hx : Rd H 3 1 x L.length (il (nl L))) :
    ∃ b : Int, callInf cfg 54 [x, .int .i64 0, .int .i64 L.length] prot H = some (.tuple #[.int .i64 b, .int .i64 1], H) := by
  have ed : ((L.length : Int) - 0).tdiv 4 = ((L.length / 4 : Nat) : Int) := by rw [Int.sub_zero, show (4 : Int) = ((4 : Nat) : Int) from rfl, Int.ofNat_tdiv]
  obtain ⟨q, hq⟩ : ∃ q, q = L.length / 4 := ⟨_, rfl⟩
  rw [← hq] at ed
  obtain ⟨HA, hHA⟩ : ∃ HA, HA = H ++ [vo [.int .i64 0] 3] := ⟨_, rfl⟩
  have sA : Stay none H HA := by rw [hHA]; exact Stay.app none H _
  have hxA := hx.stay sA
  have hg : getCells HA H.length [Value.int .i64 0].length 0 1 = some [.int .i64 0] := by
    rw [hHA]
    unfold getCells
    rw [append_get.1]
    rfl
  have e1 : (0 : Int) + ((L.length : Int) - 0).tdiv 4 * 1 = (q : Int) := by rw [ed]; omega
  have e2 : (0 : Int) + ((L.length : Int) - 0).tdiv 4 * 2 = ((q * 2 : Nat) : Int) := by rw [ed]; omega
  have e3 : (0 : Int) + ((L.length : Int) - 0).tdiv 4 * 3 = ((q * 3 : Nat) : Int) := by rw [ed]; omega
  have f0 : Fit .i64 ((L.length : Int) - 0) := fit64 (by omega) (by omega)
  have f1 : Fit .i64 (((L.length : Int) - 0).tdiv 4) := by rw [ed]; exact fit64 (by omega) (by omega)
  have f2 : Fit .i64 (((L.length : Int) - 0).tdiv 4 * 1) := by rw [ed]; exact fit64 (by omega) (by omega)
  have f3 : Fit .i64 (0 + ((L.length : Int) - 0).tdiv 4 * 1) := by rw [ed]; exact fit64 (by omega) (by omega)
  have f4 : Fit .i64 (((L.length : Int) - 0).tdiv 4 * 2) := by rw [ed]; exact fit64 (by omega) (by omega)
  have f5 : Fit .i64 (0 + ((L.length : Int) - 0).tdiv 4 * 2) := by rw [ed]; exact fit64 (by omega) (by omega)
  have f6 : Fit .i64 (((L.length : Int) - 0).tdiv 4 * 3) := by rw [ed]; exact fit64 (by omega) (by omega)
  have f7 : Fit .i64 (0 + ((L.length : Int) - 0).tdiv 4 * 3) := by rw [ed]; exact fit64 (by omega) (by omega)
  have h66 := c66 hs H.length hxA (p := H.length) (q := 0) (r := [Value.int .i64 0].length) (a := q) (b := q * 2) (c := q * 3) (by omega) (by omega) (by omega)
  by_cases h50 : 50 ≤ L.length
  · have g1 := c65 hs hn H.length hxA (p := H.length) (q := 0) (r := [Value.int .i64 0].length) (i := q) (by omega) (by omega) e1
    have g2 := c65 hs hn H.length hxA (p := H.length) (q := 0) (r := [Value.int .i64 0].length) (i := q * 2) (by omega) (by omega) e2
    have g3 := c65 hs hn H.length hxA (p := H.length) (q := 0) (r := [Value.int .i64 0].length) (i := q * 3) (by omega) (by omega) e3
    subst hHA
    obtain ⟨_, _, rfl⟩ := hx.len
    exact ⟨_, f54_F_0 f0 f1 f2 f3 f4 f5 f6 f7 (by omega) (by omega) g1 g2 g3 h66 hg rfl⟩
  · rw [← e1, ← e2, ← e3] at h66
    subst hHA
    obtain ⟨_, _, rfl⟩ := hx.len
    exact ⟨_, f54_F_3 f0 f1 f2 f3 f4 f5 f6 f7 (by omega) (by omega) h66 hg rfl⟩

theorem t8_pos : ∀ i : Fin 256, 1 ≤ i.val → 0 < (T8.get! i.val).toNat := by decide +kernel
theorem t8_size : T8.size = 256 := by kernel_rfl
theorem u8_small {n : Nat} (h : n < 256) : IntKind.u8.wrap (n : Int) = (n : Int) := by
  simp only [IntKind.wrap]
  show (if (false && decide ((n : Int) % (256 : Int) ≥ (128 : Int))) = true then (n : Int) % (256 : Int) - 256 else (n : Int) % (256 : Int)) = _
  rw [if_neg (by simp)]
  omega
theorem c61 {n : Nat} (hn : n ≤ 10000000) (prot : Nat) (H : AHeap) : ∃ r : Int, callInf cfg 61 [.int .u64 n] prot H = some (.int .i64 r, H) ∧ (13 ≤ n → r ≠ 0) := by
  have fb : ∀ (b : UInt8) (c : Int), 0 ≤ c → c ≤ 1000 → Fit .i64 (c + (b.toNat : Int)) := fun b c h1 h2 => fit64 (by omega) (by have := b.toNat_lt; omega)
  have fb0 : ∀ (b : UInt8), Fit .i64 (b.toNat : Int) := fun b => fit64 (by omega) (by have := b.toNat_lt; omega)
  have d16 : (n : Int).fdiv (2 ^ min (Int.toNat 16) IntKind.u64.bits) = ((n / 65536 : Nat) : Int) := by
    show (n : Int).fdiv 65536 = _
    rw [Int.fdiv_eq_ediv_of_nonneg _ (by omega)]
    omega
  have d8 : (n : Int).fdiv (2 ^ min (Int.toNat 8) IntKind.u64.bits) = ((n / 256 : Nat) : Int) := by
    show (n : Int).fdiv 256 = _
    rw [Int.fdiv_eq_ediv_of_nonneg _ (by omega)]
    omega
  by_cases h1 : 65536 ≤ n
  · refine ⟨_, f61_F_5 (x0 := (n : Int)) (H := H) (prot := prot) (by omega) (by omega) (by omega) (fit64 (by omega) (by omega)) (by rw [d16]; omega) (by rw [d16, u8_small (by omega)]; omega) (by rw [d16, u8_small (by omega), t8_size]; omega) (fb0 _) (fb _ _ (by omega) (by omega)), fun _ => by omega⟩
  · by_cases h2 : 256 ≤ n
    · refine ⟨_, f61_F_6 (x0 := (n : Int)) (H := H) (prot := prot) (by omega) (by omega) (by omega) (by omega) (fit64 (by omega) (by omega)) (by rw [d8, u8_small (by omega)]; omega) (by rw [d8, u8_small (by omega), t8_size]; omega) (fb0 _) (fb _ _ (by omega) (by omega)), fun _ => by omega⟩
    · refine ⟨_, f61_F_7 (x0 := (n : Int)) (H := H) (prot := prot) (by omega) (by omega) (by omega) (by rw [u8_small (by omega)]; omega) (by rw [u8_small (by omega), t8_size]; omega) (fb0 _) (fb _ _ (by omega) (by omega)), fun h3 => ?_⟩
      rw [u8_small (by omega), Int.toNat_natCast]
      have := t8_pos ⟨n, by omega⟩ (by show 1 ≤ n; omega)
      simp only at this
      omega
theorem c45 {L : List Nat} (hs : Ris L) (hn : L.length ≤ 10000000) {x : Value} (prot : Nat) {H : AHeap} (hx : Rd H 3 1 x L.length (il (nl L))) :
    callInf cfg 45 [x] prot H = some (.tuple #[], H) := by
  obtain ⟨r, h61, hr⟩ := c61 hn H.length H
  have h49 : callInf cfg 49 [.int .u64 (IntKind.u64.wrap (L.length : Int))] prot H = some (.int .i64 r, H) := by
    rw [show IntKind.u64.wrap (L.length : Int) = (L.length : Int) by
      simp only [IntKind.wrap]
      show (if (false && decide ((L.length : Int) % (18446744073709551616 : Int) ≥ (9223372036854775808 : Int))) = true then (L.length : Int) % (18446744073709551616 : Int) - 18446744073709551616 else (L.length : Int) % (18446744073709551616 : Int)) = _
      rw [if_neg (by simp)]
      omega]
    exact f49_F_0 h61
  have h48 : callInf cfg 48 [x, .int .i64 0, .int .i64 L.length, .int .i64 r] prot H = some (.tuple #[], H) := by
    by_cases h : L.length ≤ 12
    · have h51 := c51 hs (by omega) prot hx
      obtain ⟨_, _, rfl⟩ := hx.len
      exact f48_F_0 (lp_last (f48_L0_0 (fit64 (by omega) (by omega)) (by omega) h51))
    · obtain ⟨b, h54⟩ := c54 hs (by omega) (by omega) prot hx
      have h56 := c56 hs (by omega) (by omega) prot hx
      have hr0 : (r == 0) = false := by rw [beq_eq_false_iff_ne]; exact hr (by omega)
      obtain ⟨_, _, rfl⟩ := hx.len
      exact f48_F_0 (lp_last (f48_L0_18 (fit64 (by omega) (by omega)) (by omega) hr0 rfl h54 rfl rfl rfl rfl h56 rfl))
  obtain ⟨_, _, rfl⟩ := hx.len
  exact f45_F_0 h49 h48
end Go.Proofs.Ytkemihfaohkoeaa.Am11
namespace Go.Proofs.Ytkemihfaohkoeaa.Am
open Go
/-- A row of one's own, it may be empty. -/
def OwnE (H : AHeap) (e : Nat) (x : Value) (n : Nat) (cs : List Value) (b : Nat) : Prop :=
  (∃ o, Own H e 1 x o n cs ∧ ∀ id, o = some id → b ≤ id) ∨ (n = 0 ∧ cs = [] ∧ ∃ id, x = .slice (some ⟨id, 0, some 0⟩) 0 0 ∧ b ≤ id ∧ H[id]? = some (.cells [] e 0 .row))
theorem OwnE.rd {H : AHeap} {e n b : Nat} {x : Value} {cs : List Value} (h : OwnE H e x n cs b) : Rd H e 1 x n cs := by
  rcases h with ⟨o, h, _⟩ | ⟨rfl, rfl, id, rfl, _, h⟩
  · exact h.rd
  · exact ⟨rfl, .inr ⟨id, 0, 0, .row, 0, [], rfl, Nat.le_refl _, Nat.le_refl _, Nat.le_refl _, h, rfl⟩⟩
theorem OwnE.stay {H H' : AHeap} {e n b : Nat} {x : Value} {cs : List Value} (h : OwnE H e x n cs b) (s : Stay none H H') : OwnE H' e x n cs b := by
  rcases h with ⟨o, h, h2⟩ | ⟨rfl, rfl, id, rfl, h1, h⟩
  · exact .inl ⟨o, h.stay s (fun _ _ h => by cases h), h2⟩
  · exact .inr ⟨rfl, rfl, id, rfl, h1, by rw [s.2 id (List.getElem?_eq_some_iff.1 h).1 (by simp)]; exact h⟩
theorem OwnE.weak {H : AHeap} {e n b c : Nat} {x : Value} {cs : List Value} (h : OwnE H e x n cs b) (hc : c ≤ b) : OwnE H e x n cs c := by
  rcases h with ⟨o, h, h2⟩ | ⟨a1, a2, id, a3, h1, h⟩
  · exact .inl ⟨o, h, fun id e => Nat.le_trans hc (h2 id e)⟩
  · exact .inr ⟨a1, a2, id, a3, Nat.le_trans hc h1, h⟩
theorem own_mk {e n : Nat} (hn : 0 < n) (H : AHeap) (c : Value) : Own (H ++ [.cells (repCells [c] n) e (repCells [c] n).length .row]) e 1 (.slice (some ⟨H.length, 0, some (n * 1)⟩) n n) (some H.length) n (List.replicate n c) := by
  have e1 : repCells [c] n = List.replicate n c := by
    have := rep_map (fun _ : Nat => c) 0 n
    rw [this, List.map_replicate]
  rw [e1]
  exact own_new (by simp) hn (by simp) rfl
end Go.Proofs.Ytkemihfaohkoeaa.Am
namespace Go.Proofs.Ytkemihfaohkoeaa.Am
open Go
/-! Lists that are their maker's own: marked, and grown in turn. -/
theorem Rd.stayE {H H' : AHeap} {e s : Nat} {x : Value} {n : Nat} {cs : List Value} (h : Rd H e s x n cs) {p e' wr : Nat} {l : List Value} {md : OMode} (hp : H[p]? = some (.cells l e' wr md)) (hne : e' ≠ e) (k : Stay (some p) H H') : Rd H' e s x n cs := by
  refine ⟨h.1, ?_⟩
  rcases h.2 with h2 | ⟨id, L, wr2, md2, c, all, h2, h3, h4, h5, h6, h7⟩
  · exact .inl h2
  · refine .inr ⟨id, L, wr2, md2, c, all, h2, h3, h4, h5, ?_, h7⟩
    rw [k.2 id (List.getElem?_eq_some_iff.1 h6).1 (fun e1 => ?_)]
    · exact h6
    · have := Option.some.inj e1
      subst this
      rw [hp] at h6
      cases h6
      exact hne rfl
theorem Own.stayE {H H' : AHeap} {e s : Nat} {x : Value} {o : Option Nat} {n : Nat} {cs : List Value} (h : Own H e s x o n cs) {p e' wr : Nat} {l : List Value} {md : OMode} (hp : H[p]? = some (.cells l e' wr md)) (hne : e' ≠ e) (k : Stay (some p) H H') : Own H' e s x o n cs := by
  refine h.stay k (fun id e1 e2 => ?_)
  have := Option.some.inj e2
  subst this
  subst e1
  obtain ⟨_, _, _, wr2, _, h2⟩ := h
  rw [hp] at h2
  cases h2
  exact hne rfl

/-- A row of one's own. -/
def RX (H : AHeap) (e : Nat) (r : Value) (n : Nat) (o : Option Nat) (vs : List Value) : Prop :=
  match o with
  | none => n = 0 ∧ vs = [] ∧ (r = .slice none 0 0 ∨ r = emptySlice)
  | some id => vs.length = n ∧ r = .slice (some ⟨id, 0, some n⟩) n n ∧ ∃ wr, wr ≤ n ∧ H[id]? = some (.cells vs e wr .row)
theorem Own.rx {H : AHeap} {e : Nat} {x : Value} {o : Option Nat} {n : Nat} {cs : List Value} (h : Own H e 1 x o n cs) : RX H e x n o cs := by
  have h1 := h.1
  have h2 := h.2
  cases o with
  | none => exact ⟨h2.1, List.eq_nil_of_length_eq_zero (by rw [h1, h2.1]), h2.2⟩
  | some id =>
    obtain ⟨a, b, wr, c, d⟩ := h2
    rw [Nat.mul_one] at h1
    rw [h1] at b c
    exact ⟨h1, b, wr, c, d⟩
theorem OwnE.rx {H : AHeap} {e n b : Nat} {x : Value} {cs : List Value} (h : OwnE H e x n cs b) : ∃ o, RX H e x n o cs ∧ ∀ id, o = some id → b ≤ id := by
  rcases h with ⟨o, h, h2⟩ | ⟨rfl, rfl, id, rfl, h1, h⟩
  · exact ⟨o, h.rx, h2⟩
  · exact ⟨some id, ⟨rfl, rfl, 0, Nat.le_refl _, h⟩, fun i e => by cases e; exact h1⟩
theorem RX.stay {H H' : AHeap} {e : Nat} {r : Value} {n : Nat} {o o' : Option Nat} {vs : List Value} (h : RX H e r n o vs) (k : Stay o' H H') (hne : ∀ id, o = some id → o' ≠ some id) : RX H' e r n o vs := by
  cases o with
  | none => exact h
  | some id =>
    obtain ⟨a, b, wr, c, d⟩ := h
    exact ⟨a, b, wr, c, by rw [k.2 id (List.getElem?_eq_some_iff.1 d).1 (hne id rfl)]; exact d⟩
theorem RX.stayE {H H' : AHeap} {e : Nat} {r : Value} {n : Nat} {o : Option Nat} {vs : List Value} (h : RX H e r n o vs) {p e' wr : Nat} {l : List Value} {md : OMode} (hp : H[p]? = some (.cells l e' wr md)) (hne : e' ≠ e) (k : Stay (some p) H H') : RX H' e r n o vs := by
  refine h.stay k (fun id e1 e2 => ?_)
  have := Option.some.inj e2
  subst this
  subst e1
  obtain ⟨_, _, wr2, _, h2⟩ := h
  rw [hp] at h2
  cases h2
  exact hne rfl
theorem RX.lt {H : AHeap} {e : Nat} {r : Value} {n id : Nat} {vs : List Value} (h : RX H e r n (some id) vs) : id < H.length := by
  obtain ⟨_, _, _, _, h2⟩ := h
  exact (List.getElem?_eq_some_iff.1 h2).1
theorem RX.len {H : AHeap} {e : Nat} {r : Value} {n : Nat} {o : Option Nat} {vs : List Value} (h : RX H e r n o vs) : ∃ a c, r = .slice a n c := by
  cases o with
  | none =>
    obtain ⟨rfl, _, rfl | rfl⟩ := h
    · exact ⟨_, _, rfl⟩
    · exact ⟨_, _, rfl⟩
  | some id => exact ⟨_, _, h.2.1⟩
theorem put_one (L : List Value) {i : Nat} (hi : i < L.length) (v : Value) : putList L i [v] = L.set i v := by
  unfold putList
  rw [List.set_eq_take_append_cons_drop, if_pos hi]
  simp
/-- A mark. -/
theorem RX.set {P : Program} {t e by_ : Nat} (T : ElemT P t e 1 by_) {H : AHeap} {r : Value} {n : Nat} {o : Option Nat} {vs : List Value} (h : RX H e r n o vs) {k : Nat} (hk : k < n) {v : Value} (hv : isCell v = true) {prot : Nat} (hp : ∀ id, o = some id → prot ≤ id) :
    ∃ id H', o = some id ∧ aindexAddr P t r (.int .i64 (k : Nat)) = some (.pointer (some ⟨id, k, some n⟩)) ∧ setCells H prot id n k [v] = some H' ∧ RX H' e r n o (vs.set k v) ∧ Stay (some id) H H' ∧ ∃ l wr, H[id]? = some (.cells l e wr .row) := by
  cases o with
  | none => obtain ⟨rfl, _⟩ := h; omega
  | some id =>
    obtain ⟨a, b, wr, c, d⟩ := h
    have hi : aindexAddr P t r (.int .i64 (k : Nat)) = some (.pointer (some ⟨id, k, some n⟩)) := by
      rw [b]
      unfold aindexAddr
      rw [T.un]
      simp only [T.sz, Option.bind_some]
      rw [if_pos (by omega)]
      simp
    refine ⟨id, H.set id (.cells (vs.set k v) e n .row), rfl, hi, ?_, ⟨by rw [List.length_set]; exact a, b, n, Nat.le_refl _, List.getElem?_set_self (List.getElem?_eq_some_iff.1 d).1⟩, set_stay, _, _, d⟩
    unfold setCells
    rw [d]
    simp only
    rw [if_pos ⟨rfl, hp id rfl, a.symm, by simp; omega, by simp [hv]⟩, put_one vs (by omega)]
/-- One more at the end: what was written stays. -/
theorem app_wr {P : Program} {t e by_ : Nat} (T : ElemT P t e 1 by_) {H : AHeap} {id n wr : Nat} {vs : List Value} (hH : H[id]? = some (.cells vs e wr .row)) (hl : vs.length = n) {v : Value} (hv : isCell v = true) {prot : Nat} (hp : prot ≤ id) {room : Bool} (hroom : (n + 1) * by_ ≤ 140737488355328) {L : Nat} (hL : L = 1) {el : Nat} (hel : el = 1) :
    aappend P prot room t t (.slice (some ⟨id, 0, some n⟩) n n) (.slice (some ⟨H.length, 0, some L⟩) 1 1) (H ++ [.cells [v] e el .row]) = some (.slice (some ⟨id, 0, some (n + 1)⟩) (n + 1) (n + 1), (H ++ [AObj.cells [v] e el .row]).set id (AObj.cells (vs ++ [v]) e wr .row)) := by
  subst hL; subst hel
  obtain ⟨z, hz, hzl⟩ := T.ze
  have hlt := (List.getElem?_eq_some_iff.1 hH).1
  have hH' : (H ++ [AObj.cells [v] e 1 .row])[id]? = some (.cells vs e wr .row) := by rw [List.getElem?_append_left hlt]; exact hH
  have hsrc : srcCells P 1 t (.slice (some ⟨H.length, 0, some 1⟩) 1 1) (H ++ [AObj.cells [v] e 1 .row]) = some (1, [v]) := by
    unfold srcCells
    rw [T.un]
    simp only [cellsAt]
    unfold getCells
    rw [append_get.1]
    simp
  unfold aappend
  rw [T.sl, Option.bind_some, T.sz, Option.bind_some, T.bt, Option.bind_some, hz, Option.bind_some, if_pos ⟨rfl, by omega, T.b0, hzl⟩, hsrc, Option.bind_some]
  dsimp only
  rw [if_pos ⟨rfl, by simp [hv]⟩]
  simp only [Nat.one_ne_zero, if_false]
  rw [if_neg (by omega), hH']
  simp only [OMode.isRow, true_and]
  rw [if_pos ⟨hp, hl.symm, by omega, hroom⟩]
  simp

/-- A row and what it has grown to. -/
structure GK (H : AHeap) (e : Nat) (r g : Value) (n k : Nat) (o o' : Option Nat) (vs ws : List Value) : Prop where
  rl : ∃ a c, r = .slice a n c
  vl : vs.length = n
  wl : ws.length = k
  old : ∀ a, o = some a → o' = some a
  z : o = none → n = 0
  gl : (o' = none ∧ k = 0 ∧ (g = .slice none 0 0 ∨ g = emptySlice)) ∨ ∃ id wr, o' = some id ∧ g = .slice (some ⟨id, 0, some (n + k)⟩) (n + k) (n + k) ∧ wr ≤ n + k ∧ H[id]? = some (.cells (vs ++ ws) e wr .row) ∧ (0 < n → wr ≤ n ∧ r = .slice (some ⟨id, 0, some n⟩) n n)
theorem RX.gk {H : AHeap} {e : Nat} {r : Value} {n : Nat} {o : Option Nat} {vs : List Value} (h : RX H e r n o vs) : GK H e r r n 0 o o vs [] := by
  refine ⟨h.len, ?_, rfl, fun _ h => h, fun ho => ?_, ?_⟩
  · cases o with
    | none => obtain ⟨rfl, rfl, _⟩ := h; rfl
    | some id => exact h.1
  · subst ho; exact h.1
  · cases o with
    | none => exact .inl ⟨rfl, rfl, h.2.2⟩
    | some id =>
      obtain ⟨a, b, wr, c, d⟩ := h
      exact .inr ⟨id, wr, rfl, b, c, by rw [List.append_nil]; exact d, fun _ => ⟨c, b⟩⟩
theorem GK.stay {H H' : AHeap} {e : Nat} {r g : Value} {n k : Nat} {o o' p : Option Nat} {vs ws : List Value} (h : GK H e r g n k o o' vs ws) (s : Stay p H H') (hne : ∀ id, o' = some id → p ≠ some id) : GK H' e r g n k o o' vs ws := by
  refine ⟨h.rl, h.vl, h.wl, h.old, h.z, ?_⟩
  rcases h.gl with h | ⟨id, wr, a, b, c, d, f⟩
  · exact .inl h
  · exact .inr ⟨id, wr, a, b, c, by rw [s.2 id (List.getElem?_eq_some_iff.1 d).1 (hne id a)]; exact d, f⟩
theorem GK.stayE {H H' : AHeap} {e : Nat} {r g : Value} {n k : Nat} {o o' : Option Nat} {vs ws : List Value} (h : GK H e r g n k o o' vs ws) {p e' wr : Nat} {l : List Value} {md : OMode} (hp : H[p]? = some (.cells l e' wr md)) (hne : e' ≠ e) (s : Stay (some p) H H') : GK H' e r g n k o o' vs ws := by
  refine h.stay s (fun id e1 e2 => ?_)
  have := Option.some.inj e2
  subst this
  rcases h.gl with ⟨h1, _⟩ | ⟨id2, wr2, a, b, c, d, f⟩
  · rw [h1] at e1; cases e1
  · rw [e1] at a
    cases a
    rw [hp] at d
    cases d
    exact hne rfl
/-- It grows. -/
theorem GK.app {P : Program} {t e by_ : Nat} (T : ElemT P t e 1 by_) {H : AHeap} {r g : Value} {n k : Nat} {o o' : Option Nat} {vs ws : List Value} (h : GK H e r g n k o o' vs ws) {v : Value} (hv : isCell v = true) {prot : Nat} (hp : ∀ id, o' = some id → prot ≤ id) (hB : prot ≤ H.length) (hroom : (n + k + 1) * by_ ≤ 140737488355328) {L : Nat} (hL : L = 1) {el : Nat} (hel : el = 1) :
    ∃ id H', aappend P prot true t t g (.slice (some ⟨H.length, 0, some L⟩) 1 1) (H ++ [.cells [v] e el .row]) = some (.slice (some ⟨id, 0, some (n + (k + 1))⟩) (n + (k + 1)) (n + (k + 1)), H') ∧ GK H' e r (.slice (some ⟨id, 0, some (n + (k + 1))⟩) (n + (k + 1)) (n + (k + 1))) n (k + 1) o (some id) vs (ws ++ [v]) ∧ Stay o' H H' ∧ (∀ i, o' = some i → id = i) ∧ (o' = none → H.length ≤ id) := by
  rcases h.gl with ⟨rfl, rfl, hg⟩ | ⟨id, wr, rfl, rfl, c, d, f⟩
  · have ho : o = none := by
      cases ho : o with
      | none => rfl
      | some a => have := h.old a ho; cases this
    have hn := h.z ho
    have hvs : vs = [] := List.eq_nil_of_length_eq_zero (by rw [h.vl, hn])
    have hws : ws = [] := List.eq_nil_of_length_eq_zero h.wl
    subst hvs; subst hws; subst hn
    have h0 : Own H e 1 g none 0 [] := ⟨rfl, rfl, hg⟩
    obtain ⟨a', c', id, H', q1, q2, q3, q4, q5, q6⟩ := own_app T h0 (ecs := [v]) rfl (by simp [hv]) (prot := prot) (room := true) (fun id h => by cases h) hB (by omega) hL (el := el) hel
    obtain ⟨_, _, q7, wr, q8, q9⟩ := q2
    have e1 : ([] ++ [v] : List Value).length = 1 := rfl
    rw [e1] at q7 q8
    rw [Nat.zero_add] at q7
    rw [q7] at q1
    refine ⟨id, H', q1, ⟨h.rl, rfl, rfl, fun a ha => (by rw [ho] at ha; cases ha), h.z, .inr ⟨id, wr, rfl, rfl, q8, q9, fun hh => (by omega)⟩⟩, q3, fun i e => (by cases e), fun _ => q5 rfl⟩
  · have hl : (vs ++ ws).length = n + k := by rw [List.length_append, h.vl, h.wl]
    have ha := app_wr T d hl hv (hp id rfl) (room := true) hroom hL hel
    have hlt := (List.getElem?_eq_some_iff.1 d).1
    refine ⟨id, _, ha, ⟨h.rl, h.vl, by rw [List.length_append, h.wl]; rfl, h.old, h.z, .inr ⟨id, wr, rfl, rfl, by omega, ?_, f⟩⟩, (Stay.app (some id) H _).trans set_stay, fun i e => (by cases e; rfl), fun e => (by cases e)⟩
    rw [List.getElem?_set_self (by simp; omega), List.append_assoc]
theorem GK.rd {H : AHeap} {e : Nat} {r g : Value} {n k : Nat} {o o' : Option Nat} {vs ws : List Value} (h : GK H e r g n k o o' vs ws) : Rd H e 1 g (n + k) (vs ++ ws) ∧ (0 < n → Rd H e 1 r n vs) := by
  have hl : (vs ++ ws).length = n + k := by rw [List.length_append, h.vl, h.wl]
  rcases h.gl with ⟨h1, rfl, hg⟩ | ⟨id, wr, h1, rfl, c, d, f⟩
  · have hn : n = 0 := by
      cases ho : o with
      | none => exact h.z ho
      | some a => have := h.old a ho; rw [h1] at this; cases this
    have hvs : vs = [] := List.eq_nil_of_length_eq_zero (by rw [h.vl, hn])
    have hws : ws = [] := List.eq_nil_of_length_eq_zero h.wl
    subst hn; subst hvs; subst hws
    exact ⟨⟨rfl, .inl ⟨rfl, hg⟩⟩, fun hh => by omega⟩
  · refine ⟨⟨by rw [hl]; omega, .inr ⟨id, n + k, wr, .row, _, vs ++ ws, rfl, c, by omega, by omega, d, by rw [List.take_of_length_le (by omega)]⟩⟩, fun hn => ?_⟩
    obtain ⟨f1, f2⟩ := f hn
    have := h.vl
    exact ⟨by omega, .inr ⟨id, n, wr, .row, _, vs ++ ws, f2, f1, by omega, by omega, d, by rw [List.take_append_of_le_length (by omega), List.take_of_length_le (by omega)]⟩⟩
theorem GK.lt {H : AHeap} {e : Nat} {r g : Value} {n k : Nat} {o : Option Nat} {id : Nat} {vs ws : List Value} (h : GK H e r g n k o (some id) vs ws) : id < H.length := by
  rcases h.gl with ⟨h1, _⟩ | ⟨id2, wr, a, b, c, d, f⟩
  · cases h1
  · cases a
    exact (List.getElem?_eq_some_iff.1 d).1
theorem GK.glen {H : AHeap} {e : Nat} {r g : Value} {n k : Nat} {o o' : Option Nat} {vs ws : List Value} (h : GK H e r g n k o o' vs ws) : ∃ a c, g = .slice a (n + k) c := by
  have h0 := h.rd.1.len
  exact h0
end Go.Proofs.Ytkemihfaohkoeaa.Am
set_option linter.unusedVariables false
open Go Go.Proofs.Ytkemihfaohkoeaa.Am
namespace Go.Proofs.Ytkemihfaohkoeaa.Am11
theorem f15_F_0 {x0a : Option Addr} {x0n x0c : Nat} {H : AHeap} {prot : Nat} {z0a : Option Addr} {z0n z0c : Nat} {z3a : Option Addr} {z3n z3c : Nat} {H1 : AHeap} {z0a_2 : Option Addr} {z0n_2 z0c_2 : Nat} {z3a_2 : Option Addr} {z3n_2 z3c_2 : Nat} {H2 : AHeap} {z2 : Value} {H3 : AHeap} (h1 : lpInf (lpOf cfg a15 0 prot H) ([Value.slice x0a x0n x0c, Value.slice none 0 0, Value.int .i64 0], H) = some (Ex.exit 0, [Value.slice z0a z0n z0c, Value.slice z3a z3n z3c], H1)) (h2 : lpInf (lpOf cfg a15 2 prot H) ([Value.slice z0a z0n z0c, Value.slice z3a z3n z3c, Value.int .i64 0], H1) = some (Ex.exit 4, [Value.slice z0a_2 z0n_2 z0c_2, Value.slice z3a_2 z3n_2 z3c_2], H2)) (h3 : lpInf (lpOf cfg a15 4 prot H) ([Value.slice z0a_2 z0n_2 z0c_2, Value.slice z3a_2 z3n_2 z3c_2, Value.int .i64 0], H2) = some (Ex.exit 8, [z2], H3)) : callInf cfg 15 [.slice x0a x0n x0c] prot H = some (Value.bool true, H3) :=
  fn_of2 a15 [.lo (.exit 0, [.slice z0a z0n z0c, .slice z3a z3n z3c], H1), .lo (.exit 4, [.slice z0a_2 z0n_2 z0c_2, .slice z3a_2 z3n_2 z3c_2], H2), .lo (.exit 8, [z2], H3)] (ai h1 (ai h2 (ai h3 (Eq.refl ((Value.bool true, H3) : Value × AHeap))))) (by kernel_rfl) rfl
theorem f15_L0_0 {x0a : Option Addr} {x0n x0c : Nat} {x3a : Option Addr} {x3n x3c : Nat} {x4 : Int} {H0 : AHeap} {prot : Nat} {H : AHeap} {z0a : Option Addr} {z0n z0c : Nat} {z3a : Option Addr} {z3n z3c : Nat} {z4 : Int} {H2 : AHeap} (h1 : x4 < (↑x0n : Int)) (h2 : lpInf (lpOf cfg a15 1 prot H0) ([Value.slice x0a x0n x0c, Value.slice x3a x3n x3c, Value.int .i64 x4, Value.int .i64 0], H) = some (Ex.exit 2, [Value.slice z0a z0n z0c, Value.slice z3a z3n z3c, Value.int .i64 z4], H2)) (h3 : Fit .i64 (z4 + 1)) : lpOf cfg a15 0 prot H0 ([.slice x0a x0n x0c, .slice x3a x3n x3c, .int .i64 x4], H) = some (Sum.inl ([Value.slice z0a z0n z0c, Value.slice z3a z3n z3c, Value.int .i64 (z4 + 1)], H2)) :=
  lp_of2 [.e, .e, .b true, .lo (.exit 2, [.slice z0a z0n z0c, .slice z3a z3n z3c, .int .i64 z4], H2), .e] (ai (decide_eq_true h1) (ai h2 (ai h3 (Eq.refl (Sum.inl ([Value.slice z0a z0n z0c, Value.slice z3a z3n z3c, Value.int .i64 (z4 + 1)], H2) : LS ⊕ LO))))) (by kernel_rfl)
theorem f15_L0_1 {x0a : Option Addr} {x0n x0c : Nat} {x3a : Option Addr} {x3n x3c : Nat} {x4 : Int} {H0 : AHeap} {prot : Nat} {H : AHeap} (h1 : ¬(x4 < (↑x0n : Int))) : lpOf cfg a15 0 prot H0 ([.slice x0a x0n x0c, .slice x3a x3n x3c, .int .i64 x4], H) = some (Sum.inr (Ex.exit 0, [Value.slice x0a x0n x0c, Value.slice x3a x3n x3c], H)) :=
  lp_of2 [.e, .e, .b false] (ai (decide_eq_false h1) (Eq.refl (Sum.inr (Ex.exit 0, [Value.slice x0a x0n x0c, Value.slice x3a x3n x3c], H) : LS ⊕ LO))) (by kernel_rfl)
theorem f15_L1_0 {x0a : Option Addr} {x0n x0c : Nat} {x3a : Option Addr} {x3n x3c : Nat} {x4 x5 : Int} {H0 : AHeap} {prot : Nat} {H : AHeap} {x20p x20o x20l : Nat} {x21a : Option Addr} {x21n x21c x28p x28o x28l : Nat} {x29a : Option Addr} {x29n x29c x33p x33o x33l : Nat} {H2 : AHeap} (h1 : aindexAddr cfg.P 22 (Value.slice x0a x0n x0c) (Value.int .i64 x4) = some (Value.pointer (some ⟨x20p, x20o, some x20l⟩))) (h2 : getCells H x20p x20l x20o 1 = some [Value.slice x21a x21n x21c]) (h3 : x5 < (↑x21n : Int)) (h4 : aindexAddr cfg.P 22 (Value.slice x0a x0n x0c) (Value.int .i64 x4) = some (Value.pointer (some ⟨x28p, x28o, some x28l⟩))) (h5 : getCells H x28p x28l x28o 1 = some [Value.slice x29a x29n x29c]) (h6 : Fit .i64 (1000 + x4)) (h7 : aindexAddr cfg.P 34 (Value.slice x29a x29n x29c) (Value.int .i64 x5) = some (Value.pointer (some ⟨x33p, x33o, some x33l⟩))) (h8 : [Value.int .i64 (1000 + x4)].length = 1) (h9 : setCells H prot x33p x33l x33o [Value.int .i64 (1000 + x4)] = some H2) (h10 : Fit .i64 (x5 + 1)) : lpOf cfg a15 1 prot H0 ([.slice x0a x0n x0c, .slice x3a x3n x3c, .int .i64 x4, .int .i64 x5], H) = some (Sum.inl ([Value.slice x0a x0n x0c, Value.slice x3a x3n x3c, Value.int .i64 x4, Value.int .i64 (x5 + 1)], H2)) :=
  lp_of2 [.v (.pointer (some ⟨x20p, x20o, some x20l⟩)), .v (.slice x21a x21n x21c), .e, .e, .b true, .v (.pointer (some ⟨x28p, x28o, some x28l⟩)), .v (.slice x29a x29n x29c), .e, .v (.pointer (some ⟨x33p, x33o, some x33l⟩)), .h H2, .e] (ai h1 (ai h2 (ai (decide_eq_true h3) (ai h4 (ai h5 (ai h6 (ai h7 (ai h8 (ai h9 (ai h10 (Eq.refl (Sum.inl ([Value.slice x0a x0n x0c, Value.slice x3a x3n x3c, Value.int .i64 x4, Value.int .i64 (x5 + 1)], H2) : LS ⊕ LO)))))))))))) (by kernel_rfl)
theorem f15_L1_1 {x0a : Option Addr} {x0n x0c : Nat} {x3a : Option Addr} {x3n x3c : Nat} {x4 x5 : Int} {H0 : AHeap} {prot : Nat} {H : AHeap} {x20p x20o x20l : Nat} {x21a : Option Addr} {x21n x21c : Nat} (h1 : aindexAddr cfg.P 22 (Value.slice x0a x0n x0c) (Value.int .i64 x4) = some (Value.pointer (some ⟨x20p, x20o, some x20l⟩))) (h2 : getCells H x20p x20l x20o 1 = some [Value.slice x21a x21n x21c]) (h3 : ¬(x5 < (↑x21n : Int))) : lpOf cfg a15 1 prot H0 ([.slice x0a x0n x0c, .slice x3a x3n x3c, .int .i64 x4, .int .i64 x5], H) = some (Sum.inr (Ex.exit 2, [Value.slice x0a x0n x0c, Value.slice x3a x3n x3c, Value.int .i64 x4], H)) :=
  lp_of2 [.v (.pointer (some ⟨x20p, x20o, some x20l⟩)), .v (.slice x21a x21n x21c), .e, .e, .b false] (ai h1 (ai h2 (ai (decide_eq_false h3) (Eq.refl (Sum.inr (Ex.exit 2, [Value.slice x0a x0n x0c, Value.slice x3a x3n x3c, Value.int .i64 x4], H) : LS ⊕ LO))))) (by kernel_rfl)
theorem f15_L2_0 {x0a : Option Addr} {x0n x0c : Nat} {x3a : Option Addr} {x3n x3c : Nat} {x6 : Int} {H0 : AHeap} {prot : Nat} {H : AHeap} {x42p x42o x42l : Nat} {x43a : Option Addr} {x43n x43c : Nat} {z0a : Option Addr} {z0n z0c : Nat} {z3a : Option Addr} {z3n z3c : Nat} {z6 : Int} {z7a : Option Addr} {z7n z7c : Nat} {H2 : AHeap} {x56a : Option Addr} {x56n x56c : Nat} {H3 : AHeap} (h1 : x6 < (↑x0n : Int)) (h2 : aindexAddr cfg.P 22 (Value.slice x0a x0n x0c) (Value.int .i64 x6) = some (Value.pointer (some ⟨x42p, x42o, some x42l⟩))) (h3 : getCells H x42p x42l x42o 1 = some [Value.slice x43a x43n x43c]) (h4 : lpInf (lpOf cfg a15 3 prot H0) ([Value.slice x0a x0n x0c, Value.slice x3a x3n x3c, Value.int .i64 x6, Value.slice x43a x43n x43c, Value.int .i64 0], H) = some (Ex.exit 6, [Value.slice z0a z0n z0c, Value.slice z3a z3n z3c, Value.int .i64 z6, Value.slice z7a z7n z7c], H2)) (h5 : aappend cfg.P prot true 22 22 (Value.slice z3a z3n z3c) (Value.slice (some ⟨List.length H2, 0, some (1 * 1)⟩) 1 1) (H2 ++ [wo [Value.slice z7a z7n z7c] 34]) = some (Value.slice x56a x56n x56c, H3)) (h6 : Fit .i64 (z6 + 1)) : lpOf cfg a15 2 prot H0 ([.slice x0a x0n x0c, .slice x3a x3n x3c, .int .i64 x6], H) = some (Sum.inl ([Value.slice z0a z0n z0c, Value.slice x56a x56n x56c, Value.int .i64 (z6 + 1)], H3)) :=
  lp_of2 [.e, .e, .b true, .v (.pointer (some ⟨x42p, x42o, some x42l⟩)), .v (.slice x43a x43n x43c), .lo (.exit 6, [.slice z0a z0n z0c, .slice z3a z3n z3c, .int .i64 z6, .slice z7a z7n z7c], H2), .e, .r (.slice x56a x56n x56c) H3, .e] (ai (decide_eq_true h1) (ai h2 (ai h3 (ai h4 (ai h5 (ai h6 (Eq.refl (Sum.inl ([Value.slice z0a z0n z0c, Value.slice x56a x56n x56c, Value.int .i64 (z6 + 1)], H3) : LS ⊕ LO)))))))) (by kernel_rfl)
theorem f15_L2_1 {x0a : Option Addr} {x0n x0c : Nat} {x3a : Option Addr} {x3n x3c : Nat} {x6 : Int} {H0 : AHeap} {prot : Nat} {H : AHeap} (h1 : ¬(x6 < (↑x0n : Int))) : lpOf cfg a15 2 prot H0 ([.slice x0a x0n x0c, .slice x3a x3n x3c, .int .i64 x6], H) = some (Sum.inr (Ex.exit 4, [Value.slice x0a x0n x0c, Value.slice x3a x3n x3c], H)) :=
  lp_of2 [.e, .e, .b false] (ai (decide_eq_false h1) (Eq.refl (Sum.inr (Ex.exit 4, [Value.slice x0a x0n x0c, Value.slice x3a x3n x3c], H) : LS ⊕ LO))) (by kernel_rfl)
theorem f15_L3_0 {x0a : Option Addr} {x0n x0c : Nat} {x3a : Option Addr} {x3n x3c : Nat} {x6 : Int} {x7a : Option Addr} {x7n x7c : Nat} {x8 : Int} {H0 : AHeap} {prot : Nat} {H : AHeap} {x52a : Option Addr} {x52n x52c : Nat} {H2 : AHeap} (h1 : x8 < 40) (h2 : Fit .i64 (2000 + x6)) (h3 : aappend cfg.P prot true 34 34 (Value.slice x7a x7n x7c) (Value.slice (some ⟨List.length H, 0, some (1 * 1)⟩) 1 1) (H ++ [wo [Value.int .i64 (2000 + x6)] 3]) = some (Value.slice x52a x52n x52c, H2)) (h4 : Fit .i64 (x8 + 1)) : lpOf cfg a15 3 prot H0 ([.slice x0a x0n x0c, .slice x3a x3n x3c, .int .i64 x6, .slice x7a x7n x7c, .int .i64 x8], H) = some (Sum.inl ([Value.slice x0a x0n x0c, Value.slice x3a x3n x3c, Value.int .i64 x6, Value.slice x52a x52n x52c, Value.int .i64 (x8 + 1)], H2)) :=
  lp_of2 [.e, .b true, .e, .e, .r (.slice x52a x52n x52c) H2, .e] (ai (decide_eq_true h1) (ai h2 (ai h3 (ai h4 (Eq.refl (Sum.inl ([Value.slice x0a x0n x0c, Value.slice x3a x3n x3c, Value.int .i64 x6, Value.slice x52a x52n x52c, Value.int .i64 (x8 + 1)], H2) : LS ⊕ LO)))))) (by kernel_rfl)
theorem f15_L3_1 {x0a : Option Addr} {x0n x0c : Nat} {x3a : Option Addr} {x3n x3c : Nat} {x6 : Int} {x7a : Option Addr} {x7n x7c : Nat} {x8 : Int} {H0 : AHeap} {prot : Nat} {H : AHeap} (h1 : ¬(x8 < 40)) : lpOf cfg a15 3 prot H0 ([.slice x0a x0n x0c, .slice x3a x3n x3c, .int .i64 x6, .slice x7a x7n x7c, .int .i64 x8], H) = some (Sum.inr (Ex.exit 6, [Value.slice x0a x0n x0c, Value.slice x3a x3n x3c, Value.int .i64 x6, Value.slice x7a x7n x7c], H)) :=
  lp_of2 [.e, .b false] (ai (decide_eq_false h1) (Eq.refl (Sum.inr (Ex.exit 6, [Value.slice x0a x0n x0c, Value.slice x3a x3n x3c, Value.int .i64 x6, Value.slice x7a x7n x7c], H) : LS ⊕ LO))) (by kernel_rfl)
theorem f15_L4_0 {x0a : Option Addr} {x0n x0c : Nat} {x3a : Option Addr} {x3n x3c : Nat} {x9 : Int} {H0 : AHeap} {prot : Nat} {H : AHeap} {z0a : Option Addr} {z0n z0c : Nat} {z2 : Value} {z3a : Option Addr} {z3n z3c : Nat} {z9 : Int} {H2 : AHeap} (h1 : x9 < (↑x0n : Int)) (h2 : lpInf (lpOf cfg a15 5 prot H0) ([Value.slice x0a x0n x0c, Value.slice x3a x3n x3c, Value.int .i64 x9, Value.int .i64 0], H) = some (Ex.exit 10, [Value.slice z0a z0n z0c, z2, Value.slice z3a z3n z3c, Value.int .i64 z9], H2)) (h3 : Fit .i64 (z9 + 1)) : lpOf cfg a15 4 prot H0 ([.slice x0a x0n x0c, .slice x3a x3n x3c, .int .i64 x9], H) = some (Sum.inl ([Value.slice z0a z0n z0c, Value.slice z3a z3n z3c, Value.int .i64 (z9 + 1)], H2)) :=
  lp_of2 [.e, .e, .b true, .lo (.exit 10, [.slice z0a z0n z0c, z2, .slice z3a z3n z3c, .int .i64 z9], H2), .e] (ai (decide_eq_true h1) (ai h2 (ai h3 (Eq.refl (Sum.inl ([Value.slice z0a z0n z0c, Value.slice z3a z3n z3c, Value.int .i64 (z9 + 1)], H2) : LS ⊕ LO))))) (by kernel_rfl)
theorem f15_L4_2 {x0a : Option Addr} {x0n x0c : Nat} {x3a : Option Addr} {x3n x3c : Nat} {x9 : Int} {H0 : AHeap} {prot : Nat} {H : AHeap} (h1 : ¬(x9 < (↑x0n : Int))) : lpOf cfg a15 4 prot H0 ([.slice x0a x0n x0c, .slice x3a x3n x3c, .int .i64 x9], H) = some (Sum.inr (Ex.exit 8, [Value.tuple { toList := [] }], H)) :=
  lp_of2 [.e, .e, .b false] (ai (decide_eq_false h1) (Eq.refl (Sum.inr (Ex.exit 8, [Value.tuple { toList := [] }], H) : LS ⊕ LO))) (by kernel_rfl)
theorem f15_L5_4 {x0a : Option Addr} {x0n x0c : Nat} {x3a : Option Addr} {x3n x3c : Nat} {x9 x10 : Int} {H0 : AHeap} {prot : Nat} {H : AHeap} {x66p x66o x66l : Nat} {x67a : Option Addr} {x67n x67c x75p x75o x75l : Nat} {x76a : Option Addr} {x76n x76c x82p x82o x82l : Nat} {x83a : Option Addr} {x83n x83c x85p x85o x85l : Nat} {x86 : Int} {x93p x93o x93l : Nat} {x94a : Option Addr} {x94n x94c x96p x96o x96l : Nat} {x97 : Int} {x107p x107o x107l : Nat} {x108a : Option Addr} {x108n x108c : Nat} (h1 : aindexAddr cfg.P 22 (Value.slice x3a x3n x3c) (Value.int .i64 x9) = some (Value.pointer (some ⟨x66p, x66o, some x66l⟩))) (h2 : getCells H x66p x66l x66o 1 = some [Value.slice x67a x67n x67c]) (h3 : x10 < (↑x67n : Int)) (h4 : aindexAddr cfg.P 22 (Value.slice x0a x0n x0c) (Value.int .i64 x9) = some (Value.pointer (some ⟨x75p, x75o, some x75l⟩))) (h5 : getCells H x75p x75l x75o 1 = some [Value.slice x76a x76n x76c]) (h6 : x10 < (↑x76n : Int)) (h7 : aindexAddr cfg.P 22 (Value.slice x0a x0n x0c) (Value.int .i64 x9) = some (Value.pointer (some ⟨x82p, x82o, some x82l⟩))) (h8 : getCells H x82p x82l x82o 1 = some [Value.slice x83a x83n x83c]) (h9 : aindexAddr cfg.P 34 (Value.slice x83a x83n x83c) (Value.int .i64 x10) = some (Value.pointer (some ⟨x85p, x85o, some x85l⟩))) (h10 : getCells H x85p x85l x85o 1 = some [Value.int .i64 x86]) (h11 : Fit .i64 (1000 + x9)) (h12 : (x86 != 1000 + x9) = false) (h13 : aindexAddr cfg.P 22 (Value.slice x3a x3n x3c) (Value.int .i64 x9) = some (Value.pointer (some ⟨x93p, x93o, some x93l⟩))) (h14 : getCells H x93p x93l x93o 1 = some [Value.slice x94a x94n x94c]) (h15 : aindexAddr cfg.P 34 (Value.slice x94a x94n x94c) (Value.int .i64 x10) = some (Value.pointer (some ⟨x96p, x96o, some x96l⟩))) (h16 : getCells H x96p x96l x96o 1 = some [Value.int .i64 x97]) (h17 : (x97 != 1000 + x9) = false) (h18 : aindexAddr cfg.P 22 (Value.slice x0a x0n x0c) (Value.int .i64 x9) = some (Value.pointer (some ⟨x107p, x107o, some x107l⟩))) (h19 : getCells H x107p x107l x107o 1 = some [Value.slice x108a x108n x108c]) (h20 : ¬(x10 ≥ (↑x108n : Int))) (h21 : Fit .i64 (x10 + 1)) : lpOf cfg a15 5 prot H0 ([.slice x0a x0n x0c, .slice x3a x3n x3c, .int .i64 x9, .int .i64 x10], H) = some (Sum.inl ([Value.slice x0a x0n x0c, Value.slice x3a x3n x3c, Value.int .i64 x9, Value.int .i64 (x10 + 1)], H)) :=
  lp_of2 [.v (.pointer (some ⟨x66p, x66o, some x66l⟩)), .v (.slice x67a x67n x67c), .e, .e, .b true, .v (.pointer (some ⟨x75p, x75o, some x75l⟩)), .v (.slice x76a x76n x76c), .e, .e, .b true, .b true, .b true, .v (.pointer (some ⟨x82p, x82o, some x82l⟩)), .b true, .v (.slice x83a x83n x83c), .b true, .b true, .v (.pointer (some ⟨x85p, x85o, some x85l⟩)), .b true, .v (.int .i64 x86), .b true, .b true, .e, .b true, .e, .b true, .b false, .b false, .b false, .v (.pointer (some ⟨x93p, x93o, some x93l⟩)), .b false, .v (.slice x94a x94n x94c), .b false, .b false, .v (.pointer (some ⟨x96p, x96o, some x96l⟩)), .b false, .v (.int .i64 x97), .b false, .b false, .e, .b false, .e, .b true, .b false, .b true, .b false, .b false, .b false, .b false, .v (.pointer (some ⟨x107p, x107o, some x107l⟩)), .b false, .v (.slice x108a x108n x108c), .b false, .e, .b false, .e, .b false, .b false, .b false, .b false, .b false, .b false, .b false, .b false, .b false, .b false, .b false, .b false, .b false, .b false, .b false, .e] (ai h1 (ai h2 (ai (decide_eq_true h3) (ai h4 (ai h5 (ai (decide_eq_true h6) (ai (decide_eq_true h6) (ai (decide_eq_true h6) (ai h7 (ai (decide_eq_true h6) (ai h8 (ai (decide_eq_true h6) (ai (decide_eq_true h6) (ai h9 (ai (decide_eq_true h6) (ai h10 (ai (decide_eq_true h6) (ai (decide_eq_true h6) (ai h11 (ai (decide_eq_true h6) (ai (decide_eq_true h6) (ai h12 (ai h12 (ai h12 (ai h13 (ai h12 (ai h14 (ai h12 (ai h12 (ai h15 (ai h12 (ai h16 (ai h12 (ai h12 (ai h11 (ai h12 (ai (decide_eq_true h6) (ai h12 (ai (decide_eq_true h6) (ai h17 (ai h17 (ai h17 (ai h17 (ai h18 (ai h17 (ai h19 (ai h17 (ai h17 (ai h17 (ai (decide_eq_false h20) (ai (decide_eq_false h20) (ai (decide_eq_false h20) (ai (decide_eq_false h20) (ai (decide_eq_false h20) (ai (decide_eq_false h20) (ai (decide_eq_false h20) (ai (decide_eq_false h20) (ai (decide_eq_false h20) (ai (decide_eq_false h20) (ai h17 (ai (decide_eq_false h20) (ai h17 (ai (Eq.refl false) (ai h21 (Eq.refl (Sum.inl ([Value.slice x0a x0n x0c, Value.slice x3a x3n x3c, Value.int .i64 x9, Value.int .i64 (x10 + 1)], H) : LS ⊕ LO)))))))))))))))))))))))))))))))))))))))))))))))))))))))))))))))))) (by kernel_rfl)
theorem f15_L5_6 {x0a : Option Addr} {x0n x0c : Nat} {x3a : Option Addr} {x3n x3c : Nat} {x9 x10 : Int} {H0 : AHeap} {prot : Nat} {H : AHeap} {x66p x66o x66l : Nat} {x67a : Option Addr} {x67n x67c x75p x75o x75l : Nat} {x76a : Option Addr} {x76n x76c x107p x107o x107l : Nat} {x108a : Option Addr} {x108n x108c x114p x114o x114l : Nat} {x115a : Option Addr} {x115n x115c x117p x117o x117l : Nat} {x118 : Int} (h1 : aindexAddr cfg.P 22 (Value.slice x3a x3n x3c) (Value.int .i64 x9) = some (Value.pointer (some ⟨x66p, x66o, some x66l⟩))) (h2 : getCells H x66p x66l x66o 1 = some [Value.slice x67a x67n x67c]) (h3 : x10 < (↑x67n : Int)) (h4 : aindexAddr cfg.P 22 (Value.slice x0a x0n x0c) (Value.int .i64 x9) = some (Value.pointer (some ⟨x75p, x75o, some x75l⟩))) (h5 : getCells H x75p x75l x75o 1 = some [Value.slice x76a x76n x76c]) (h6 : ¬(x10 < (↑x76n : Int))) (h7 : aindexAddr cfg.P 22 (Value.slice x0a x0n x0c) (Value.int .i64 x9) = some (Value.pointer (some ⟨x107p, x107o, some x107l⟩))) (h8 : getCells H x107p x107l x107o 1 = some [Value.slice x108a x108n x108c]) (h9 : x10 ≥ (↑x108n : Int)) (h10 : aindexAddr cfg.P 22 (Value.slice x3a x3n x3c) (Value.int .i64 x9) = some (Value.pointer (some ⟨x114p, x114o, some x114l⟩))) (h11 : getCells H x114p x114l x114o 1 = some [Value.slice x115a x115n x115c]) (h12 : aindexAddr cfg.P 34 (Value.slice x115a x115n x115c) (Value.int .i64 x10) = some (Value.pointer (some ⟨x117p, x117o, some x117l⟩))) (h13 : getCells H x117p x117l x117o 1 = some [Value.int .i64 x118]) (h14 : Fit .i64 (2000 + x9)) (h15 : (x118 != 2000 + x9) = false) (h16 : Fit .i64 (x10 + 1)) : lpOf cfg a15 5 prot H0 ([.slice x0a x0n x0c, .slice x3a x3n x3c, .int .i64 x9, .int .i64 x10], H) = some (Sum.inl ([Value.slice x0a x0n x0c, Value.slice x3a x3n x3c, Value.int .i64 x9, Value.int .i64 (x10 + 1)], H)) :=
  lp_of2 [.v (.pointer (some ⟨x66p, x66o, some x66l⟩)), .v (.slice x67a x67n x67c), .e, .e, .b true, .v (.pointer (some ⟨x75p, x75o, some x75l⟩)), .v (.slice x76a x76n x76c), .e, .e, .b false, .b false, .b false, .b false, .b false, .b false, .b false, .b false, .b false, .b false, .b false, .b false, .b false, .b false, .b false, .b false, .b false, .v (.pointer (some ⟨x107p, x107o, some x107l⟩)), .b false, .v (.slice x108a x108n x108c), .b false, .e, .b false, .e, .b false, .b true, .b true, .b true, .v (.pointer (some ⟨x114p, x114o, some x114l⟩)), .b true, .v (.slice x115a x115n x115c), .b true, .b true, .v (.pointer (some ⟨x117p, x117o, some x117l⟩)), .b true, .v (.int .i64 x118), .b true, .b true, .e, .b true, .e, .b false, .b true, .b false, .b false, .e] (ai h1 (ai h2 (ai (decide_eq_true h3) (ai h4 (ai h5 (ai (decide_eq_false h6) (ai (decide_eq_false h6) (ai (decide_eq_false h6) (ai (decide_eq_false h6) (ai (decide_eq_false h6) (ai (decide_eq_false h6) (ai (decide_eq_false h6) (ai (decide_eq_false h6) (ai (decide_eq_false h6) (ai (decide_eq_false h6) (ai (decide_eq_false h6) (ai (decide_eq_false h6) (ai (decide_eq_false h6) (ai (Eq.refl false) (ai (Eq.refl false) (ai (Eq.refl false) (ai (Eq.refl false) (ai h7 (ai (Eq.refl false) (ai h8 (ai (Eq.refl false) (ai (Eq.refl false) (ai (Eq.refl false) (ai (decide_eq_true h9) (ai (decide_eq_true h9) (ai (decide_eq_true h9) (ai h10 (ai (decide_eq_true h9) (ai h11 (ai (decide_eq_true h9) (ai (decide_eq_true h9) (ai h12 (ai (decide_eq_true h9) (ai h13 (ai (decide_eq_true h9) (ai (decide_eq_true h9) (ai h14 (ai (decide_eq_true h9) (ai (Eq.refl false) (ai (decide_eq_true h9) (ai (Eq.refl false) (ai h15 (ai h16 (Eq.refl (Sum.inl ([Value.slice x0a x0n x0c, Value.slice x3a x3n x3c, Value.int .i64 x9, Value.int .i64 (x10 + 1)], H) : LS ⊕ LO)))))))))))))))))))))))))))))))))))))))))))))))))) (by kernel_rfl)
theorem f15_L5_8 {x0a : Option Addr} {x0n x0c : Nat} {x3a : Option Addr} {x3n x3c : Nat} {x9 x10 : Int} {H0 : AHeap} {prot : Nat} {H : AHeap} {x66p x66o x66l : Nat} {x67a : Option Addr} {x67n x67c : Nat} (h1 : aindexAddr cfg.P 22 (Value.slice x3a x3n x3c) (Value.int .i64 x9) = some (Value.pointer (some ⟨x66p, x66o, some x66l⟩))) (h2 : getCells H x66p x66l x66o 1 = some [Value.slice x67a x67n x67c]) (h3 : ¬(x10 < (↑x67n : Int))) : lpOf cfg a15 5 prot H0 ([.slice x0a x0n x0c, .slice x3a x3n x3c, .int .i64 x9, .int .i64 x10], H) = some (Sum.inr (Ex.exit 10, [Value.slice x0a x0n x0c, Value.tuple { toList := [] }, Value.slice x3a x3n x3c, Value.int .i64 x9], H)) :=
  lp_of2 [.v (.pointer (some ⟨x66p, x66o, some x66l⟩)), .v (.slice x67a x67n x67c), .e, .e, .b false] (ai h1 (ai h2 (ai (decide_eq_false h3) (Eq.refl (Sum.inr (Ex.exit 10, [Value.slice x0a x0n x0c, Value.tuple { toList := [] }, Value.slice x3a x3n x3c, Value.int .i64 x9], H) : LS ⊕ LO))))) (by kernel_rfl)
end Go.Proofs.Ytkemihfaohkoeaa.Am11
namespace Go.Proofs.Ytkemihfaohkoeaa.Am11
open Go Go.Proofs.Ytkemihfaohkoeaa.Am
/-- Rows of one's own, listed. -/
structure Rows (H : AHeap) (x0 : Value) (N : Nat) (r : Nat → Value) (n : Nat → Nat) (o : Nat → Option Nat) (V : Nat → List Int) : Prop where
  rd : ∃ cs, Rd H 34 1 x0 N cs ∧ ∀ j, j < N → cs[j]? = some (r j)
  rx : ∀ j, j < N → RX H 3 (r j) (n j) (o j) (il (V j))
theorem rows_at {H : AHeap} {x0 : Value} {N : Nat} {r : Nat → Value} (h : ∃ cs, Rd H 34 1 x0 N cs ∧ ∀ j, j < N → cs[j]? = some (r j)) {i : Nat} (hi : i < N) : ∃ id L, aindexAddr cfg.P 22 x0 (.int .i64 (i : Nat)) = some (.pointer (some ⟨id, i, some L⟩)) ∧ getCells H id L i 1 = some [r i] := by
  obtain ⟨cs, h1, h2⟩ := h
  exact rd_at T22 h1 (h2 i hi)
theorem rows_len {H : AHeap} {x0 : Value} {N : Nat} {r : Nat → Value} (h : ∃ cs, Rd H 34 1 x0 N cs ∧ ∀ j, j < N → cs[j]? = some (r j)) : ∃ a c, x0 = .slice a N c := by
  obtain ⟨cs, h1, _⟩ := h
  exact h1.len
theorem il_set (l : List Int) (k : Nat) (c : Int) : (il l).set k (.int .i64 c) = il (l.set k c) := by unfold il; rw [List.map_set]
/-- No two of them are one. -/
def Dis (N : Nat) (o : Nat → Option Nat) : Prop := ∀ i j, i < N → j < N → i ≠ j → ∀ a, o i = some a → o j ≠ some a
theorem Rows.set {H : AHeap} {x0 : Value} {N : Nat} {r : Nat → Value} {n : Nat → Nat} {o : Nat → Option Nat} {V : Nat → List Int} (h : Rows H x0 N r n o V) (hD : Dis N o) {i k : Nat} (hi : i < N) (hk : k < n i) (c : Int) {prot : Nat} (hp : ∀ j, j < N → ∀ a, o j = some a → prot ≤ a) :
    ∃ id H', aindexAddr cfg.P 34 (r i) (.int .i64 (k : Nat)) = some (.pointer (some ⟨id, k, some (n i)⟩)) ∧ setCells H prot id (n i) k [.int .i64 c] = some H' ∧ Rows H' x0 N r n o (fun j => if j = i then (V i).set k c else V j) ∧ H'.length = H.length := by
  obtain ⟨id, H', e, a1, a2, a3, a4, l, wr, a5⟩ := (h.rx i hi).set T34 hk (v := .int .i64 c) rfl (hp i hi)
  refine ⟨id, H', a1, a2, ⟨?_, fun j hj => ?_⟩, ?_⟩
  · obtain ⟨cs, h1, h2⟩ := h.rd
    exact ⟨cs, h1.stayE a5 (by decide) a4, h2⟩
  · by_cases e1 : j = i
    · subst e1
      rw [if_pos rfl, ← il_set]
      exact a3
    · rw [if_neg e1]
      exact (h.rx j hj).stay a4 (fun b hb e2 => hD i j hi hj (fun e => e1 e.symm) id e (by rw [hb]; exact e2.symm))
  · unfold setCells at a2
    rw [a5] at a2
    simp only at a2
    split at a2
    · cases a2; simp
    · cases a2

theorem loop15b {x0 x3 : Value} {N : Nat} {r : Nat → Value} {n : Nat → Nat} {o : Nat → Option Nat} (hD : Dis N o) {prot : Nat} (hp : ∀ j, j < N → ∀ a, o j = some a → prot ≤ a) (hN : N ≤ 1000000) {H0 : AHeap} (h3 : ∃ a m c, x3 = .slice a m c) {i : Nat} (hi : i < N) (hn : n i ≤ 1000000000) : ∀ (d k : Nat) (V : Nat → List Int) (rest : List Int) (H : AHeap), k + d = n i → Rows H x0 N r n o V → V i = List.replicate k (1000 + (i : Int)) ++ rest → rest.length = d →
    ∃ V' H', lpInf (lpOf cfg a15 1 prot H0) ([x0, x3, .int .i64 i, .int .i64 k], H) = some (.exit 2, [x0, x3, .int .i64 i], H') ∧ Rows H' x0 N r n o V' ∧ V' i = List.replicate (n i) (1000 + (i : Int)) ∧ (∀ j, j ≠ i → V' j = V j) ∧ H'.length = H.length
  | 0, k, V, rest, H, hk, hr, hV, hl => by
    obtain ⟨id, L, a1, a2⟩ := rows_at hr.rd hi
    refine ⟨V, H, ?_, hr, ?_, fun _ _ => rfl, rfl⟩
    · obtain ⟨_, _, rfl⟩ := rows_len hr.rd
      obtain ⟨_, _, _, rfl⟩ := h3
      obtain ⟨ra, rc, hre⟩ := (hr.rx i hi).len
      rw [hre] at a2
      exact lp_last (f15_L1_1 a1 a2 (by omega))
    · rw [hV, List.eq_nil_of_length_eq_zero hl, List.append_nil]
      congr 1
  | d + 1, k, V, rest, H, hk, hr, hV, hl => by
    obtain ⟨id, L, a1, a2⟩ := rows_at hr.rd hi
    obtain ⟨id2, H2, b1, b2, b3, b4⟩ := hr.set hD hi (k := k) (by omega) (1000 + (i : Int)) hp
    cases rest with
    | nil => simp at hl
    | cons y rest =>
      obtain ⟨V', H', z1, z2, z3, z4, z5⟩ := loop15b hD hp hN (H0 := H0) h3 hi hn d (k + 1) _ rest H2 (by omega) b3 (by
        rw [if_pos rfl, hV, List.set_append_right _ _ (by simp), List.length_replicate, Nat.sub_self, List.set_cons_zero, List.replicate_succ', List.append_assoc]
        rfl) (by simpa using hl)
      refine ⟨V', H', ?_, z2, z3, fun j hj => by rw [z4 j hj, if_neg hj], by omega⟩
      obtain ⟨_, _, rfl⟩ := rows_len hr.rd
      obtain ⟨_, _, _, rfl⟩ := h3
      obtain ⟨ra, rc, hre⟩ := (hr.rx i hi).len
      rw [hre] at a2 b1
      exact lp_next (f15_L1_0 a1 a2 (by omega) a1 a2 (fit64 (by omega) (by omega)) b1 rfl b2 (fit64 (by omega) (by omega))) z1
theorem loop15a {x0 x3 : Value} {N : Nat} {r : Nat → Value} {n : Nat → Nat} {o : Nat → Option Nat} (hD : Dis N o) {prot : Nat} (hp : ∀ j, j < N → ∀ a, o j = some a → prot ≤ a) (hN : N ≤ 1000000) {H0 : AHeap} (h3 : ∃ a m c, x3 = .slice a m c) (hn : ∀ i, i < N → n i ≤ 1000000000) : ∀ (d i : Nat) (V : Nat → List Int) (H : AHeap), i + d = N → Rows H x0 N r n o V → (∀ j, j < i → V j = List.replicate (n j) (1000 + (j : Int))) →
    ∃ H', lpInf (lpOf cfg a15 0 prot H0) ([x0, x3, .int .i64 i], H) = some (.exit 0, [x0, x3], H') ∧ Rows H' x0 N r n o (fun j => List.replicate (n j) (1000 + (j : Int))) ∧ H'.length = H.length
  | 0, i, V, H, hi, hr, hV => by
    refine ⟨H, ?_, ⟨hr.rd, fun j hj => by rw [← hV j (by omega)]; exact hr.rx j hj⟩, rfl⟩
    obtain ⟨_, _, rfl⟩ := rows_len hr.rd
    obtain ⟨_, _, _, rfl⟩ := h3
    exact lp_last (f15_L0_1 (by omega))
  | d + 1, i, V, H, hi, hr, hV => by
    have hVl : (V i).length = n i := by
      have := hr.rx i (by omega)
      cases ho : o i with
      | none => rw [ho] at this; obtain ⟨a, b, _⟩ := this; have : (il (V i)).length = 0 := by rw [b]; rfl
                simp [il] at this; rw [this, a]; rfl
      | some id => rw [ho] at this; have := this.1; simpa [il] using this
    obtain ⟨V1, H1, y1, y2, y3, y4, y5⟩ := loop15b hD hp hN (H0 := H0) h3 (show i < N by omega) (hn i (by omega)) (n i) 0 V (V i) H (by omega) hr (by simp) hVl
    obtain ⟨H', z1, z2, z3⟩ := loop15a hD hp hN (H0 := H0) h3 hn d (i + 1) V1 H1 (by omega) y2 (fun j hj => by
      by_cases e : j = i
      · subst e; exact y3
      · rw [y4 j e, hV j (by omega)])
    refine ⟨H', ?_, z2, by omega⟩
    obtain ⟨_, _, rfl⟩ := rows_len hr.rd
    obtain ⟨_, _, _, rfl⟩ := h3
    exact lp_next (f15_L0_0 (by omega) y1 (fit64 (by omega) (by omega))) z1
end Go.Proofs.Ytkemihfaohkoeaa.Am11
set_option linter.unusedVariables false
open Go Go.Proofs.Ytkemihfaohkoeaa.Am
namespace Go.Proofs.Ytkemihfaohkoeaa.Am11
theorem f33_F_0 {x0a : Option Addr} {x0n x0c : Nat} {H : AHeap} {prot : Nat} {z3a : Option Addr} {z3n z3c : Nat} {H1 : AHeap} {z3a_2 : Option Addr} {z3n_2 z3c_2 : Nat} {H2 : AHeap} (rv : Value) (rH : AHeap) (h1 : 0 ≤ (↑x0n : Int)) (h2 : (↑x0n : Int) = (↑x0n : Int)) (h3 : (↑x0n : Int) ≤ 9223372036854775807) (h4 : (↑24 : Int) * (↑x0n : Int) ≤ 2 ^ 48) (h5 : lpInf (lpOf cfg a33 0 prot H) ([Value.slice (some ⟨List.length H, 0, some ((↑x0n : Int).toNat * 1)⟩) (↑x0n : Int).toNat (↑x0n : Int).toNat, Value.slice x0a x0n x0c, Value.int .i64 (↑x0n : Int), Value.int .i64 0], H ++ [AObj.cells (repCells [Value.slice none 0 0] (↑x0n : Int).toNat) 34 (repCells [Value.slice none 0 0] (↑x0n : Int).toNat).length OMode.row]) = some (Ex.exit 0, [Value.slice z3a z3n z3c], H1)) (h6 : lpInf (lpOf cfg a33 2 prot H) ([Value.slice z3a z3n z3c, Value.slice z3a z3n z3c, Value.int .i64 (↑z3n : Int), Value.int .i64 0], H1) = some (Ex.exit 4, [Value.slice z3a_2 z3n_2 z3c_2], H2)) (h7 : pfin a33 H [Value.slice z3a_2 z3n_2 z3c_2] H2 = (rv, rH)) : callInf cfg 33 [.slice x0a x0n x0c] prot H = some (rv, rH) :=
  fn_of2 a33 [.e, .e, .e, .lo (.exit 0, [.slice z3a z3n z3c], H1), .e, .lo (.exit 4, [.slice z3a_2 z3n_2 z3c_2], H2)] (ai h1 (ai h2 (ai h3 (ai h4 (ai h5 (ai h6 h7)))))) (by kernel_rfl) rfl
theorem f33_L0_0 {x3a : Option Addr} {x3n x3c : Nat} {x13a : Option Addr} {x13n x13c : Nat} {x14 x15 : Int} {H0 : AHeap} {prot : Nat} {H : AHeap} {x18p x18o x18l : Nat} {x19a : Option Addr} {x19n x19c : Nat} {z3a : Option Addr} {z3n z3c : Nat} {z13a : Option Addr} {z13n z13c : Nat} {z14 z15 : Int} {H2 : AHeap} (h1 : x15 < x14) (h2 : aindexAddr cfg.P 22 (Value.slice x13a x13n x13c) (Value.int .i64 x15) = some (Value.pointer (some ⟨x18p, x18o, some x18l⟩))) (h3 : getCells H x18p x18l x18o 1 = some [Value.slice x19a x19n x19c]) (h4 : lpInf (lpOf cfg a33 1 prot H0) ([Value.slice x3a x3n x3c, Value.int .i64 x15, Value.slice x13a x13n x13c, Value.int .i64 x14, Value.int .i64 x15, Value.slice x19a x19n x19c, Value.int .i64 (↑x19n : Int), Value.int .i64 0], H) = some (Ex.exit 2, [Value.slice z3a z3n z3c, Value.slice z13a z13n z13c, Value.int .i64 z14, Value.int .i64 z15], H2)) (h5 : Fit .i64 (z15 + 1)) : lpOf cfg a33 0 prot H0 ([.slice x3a x3n x3c, .slice x13a x13n x13c, .int .i64 x14, .int .i64 x15], H) = some (Sum.inl ([Value.slice z3a z3n z3c, Value.slice z13a z13n z13c, Value.int .i64 z14, Value.int .i64 (z15 + 1)], H2)) :=
  lp_of2 [.e, .b true, .v (.pointer (some ⟨x18p, x18o, some x18l⟩)), .v (.slice x19a x19n x19c), .e, .lo (.exit 2, [.slice z3a z3n z3c, .slice z13a z13n z13c, .int .i64 z14, .int .i64 z15], H2), .e] (ai (decide_eq_true h1) (ai h2 (ai h3 (ai h4 (ai h5 (Eq.refl (Sum.inl ([Value.slice z3a z3n z3c, Value.slice z13a z13n z13c, Value.int .i64 z14, Value.int .i64 (z15 + 1)], H2) : LS ⊕ LO))))))) (by kernel_rfl)
theorem f33_L0_1 {x3a : Option Addr} {x3n x3c : Nat} {x13a : Option Addr} {x13n x13c : Nat} {x14 x15 : Int} {H0 : AHeap} {prot : Nat} {H : AHeap} (h1 : ¬(x15 < x14)) : lpOf cfg a33 0 prot H0 ([.slice x3a x3n x3c, .slice x13a x13n x13c, .int .i64 x14, .int .i64 x15], H) = some (Sum.inr (Ex.exit 0, [Value.slice x3a x3n x3c], H)) :=
  lp_of2 [.e, .b false] (ai (decide_eq_false h1) (Eq.refl (Sum.inr (Ex.exit 0, [Value.slice x3a x3n x3c], H) : LS ⊕ LO))) (by kernel_rfl)
theorem f33_L1_0 {x3a : Option Addr} {x3n x3c : Nat} {x4 : Int} {x13a : Option Addr} {x13n x13c : Nat} {x14 x15 : Int} {x20a : Option Addr} {x20n x20c : Nat} {x21 x22 : Int} {H0 : AHeap} {prot : Nat} {H : AHeap} {x24p x24o x24l : Nat} {x25 : Int} {x30p x30o x30l : Nat} {x31a : Option Addr} {x31n x31c : Nat} {x34a : Option Addr} {x34n x34c : Nat} {H2 : AHeap} {x35p x35o x35l : Nat} {H3 : AHeap} (h1 : x22 < x21) (h2 : aindexAddr cfg.P 34 (Value.slice x20a x20n x20c) (Value.int .i64 x22) = some (Value.pointer (some ⟨x24p, x24o, some x24l⟩))) (h3 : getCells H x24p x24l x24o 1 = some [Value.int .i64 x25]) (h4 : aindexAddr cfg.P 22 (Value.slice x3a x3n x3c) (Value.int .i64 x25) = some (Value.pointer (some ⟨x30p, x30o, some x30l⟩))) (h5 : getCells H x30p x30l x30o 1 = some [Value.slice x31a x31n x31c]) (h6 : aappend cfg.P (List.length H0) true 34 34 (Value.slice x31a x31n x31c) (Value.slice (some ⟨List.length H, 0, some (1 * 1)⟩) 1 1) (H ++ [wo [Value.int .i64 x4] 3]) = some (Value.slice x34a x34n x34c, H2)) (h7 : aindexAddr cfg.P 22 (Value.slice x3a x3n x3c) (Value.int .i64 x25) = some (Value.pointer (some ⟨x35p, x35o, some x35l⟩))) (h8 : [Value.slice x34a x34n x34c].length = 1) (h9 : setCells H2 (List.length H0) x35p x35l x35o [Value.slice x34a x34n x34c] = some H3) (h10 : Fit .i64 (x22 + 1)) : lpOf cfg a33 1 prot H0 ([.slice x3a x3n x3c, .int .i64 x4, .slice x13a x13n x13c, .int .i64 x14, .int .i64 x15, .slice x20a x20n x20c, .int .i64 x21, .int .i64 x22], H) = some (Sum.inl ([Value.slice x3a x3n x3c, Value.int .i64 x4, Value.slice x13a x13n x13c, Value.int .i64 x14, Value.int .i64 x15, Value.slice x20a x20n x20c, Value.int .i64 x21, Value.int .i64 (x22 + 1)], H3)) :=
  lp_of2 [.e, .b true, .v (.pointer (some ⟨x24p, x24o, some x24l⟩)), .v (.int .i64 x25), .v (.pointer (some ⟨x30p, x30o, some x30l⟩)), .v (.slice x31a x31n x31c), .e, .r (.slice x34a x34n x34c) H2, .v (.pointer (some ⟨x35p, x35o, some x35l⟩)), .h H3, .e] (ai (decide_eq_true h1) (ai h2 (ai h3 (ai h4 (ai h5 (ai h6 (ai h7 (ai h8 (ai h9 (ai h10 (Eq.refl (Sum.inl ([Value.slice x3a x3n x3c, Value.int .i64 x4, Value.slice x13a x13n x13c, Value.int .i64 x14, Value.int .i64 x15, Value.slice x20a x20n x20c, Value.int .i64 x21, Value.int .i64 (x22 + 1)], H3) : LS ⊕ LO)))))))))))) (by kernel_rfl)
theorem f33_L1_1 {x3a : Option Addr} {x3n x3c : Nat} {x4 : Int} {x13a : Option Addr} {x13n x13c : Nat} {x14 x15 : Int} {x20a : Option Addr} {x20n x20c : Nat} {x21 x22 : Int} {H0 : AHeap} {prot : Nat} {H : AHeap} (h1 : ¬(x22 < x21)) : lpOf cfg a33 1 prot H0 ([.slice x3a x3n x3c, .int .i64 x4, .slice x13a x13n x13c, .int .i64 x14, .int .i64 x15, .slice x20a x20n x20c, .int .i64 x21, .int .i64 x22], H) = some (Sum.inr (Ex.exit 2, [Value.slice x3a x3n x3c, Value.slice x13a x13n x13c, Value.int .i64 x14, Value.int .i64 x15], H)) :=
  lp_of2 [.e, .b false] (ai (decide_eq_false h1) (Eq.refl (Sum.inr (Ex.exit 2, [Value.slice x3a x3n x3c, Value.slice x13a x13n x13c, Value.int .i64 x14, Value.int .i64 x15], H) : LS ⊕ LO))) (by kernel_rfl)
theorem f33_L2_0 {x3a : Option Addr} {x3n x3c : Nat} {x38a : Option Addr} {x38n x38c : Nat} {x39 x40 : Int} {H0 : AHeap} {prot : Nat} {H : AHeap} {x42p x42o x42l : Nat} {x43a : Option Addr} {x43n x43c : Nat} {H2 : AHeap} (h1 : x40 < x39) (h2 : aindexAddr cfg.P 22 (Value.slice x38a x38n x38c) (Value.int .i64 x40) = some (Value.pointer (some ⟨x42p, x42o, some x42l⟩))) (h3 : getCells H x42p x42l x42o 1 = some [Value.slice x43a x43n x43c]) (h4 : callInf cfg 45 [Value.slice x43a x43n x43c] (List.length H0) H = some (Value.tuple { toList := [] }, H2)) (h5 : Fit .i64 (x40 + 1)) : lpOf cfg a33 2 prot H0 ([.slice x3a x3n x3c, .slice x38a x38n x38c, .int .i64 x39, .int .i64 x40], H) = some (Sum.inl ([Value.slice x3a x3n x3c, Value.slice x38a x38n x38c, Value.int .i64 x39, Value.int .i64 (x40 + 1)], H2)) :=
  lp_of2 [.e, .b true, .v (.pointer (some ⟨x42p, x42o, some x42l⟩)), .v (.slice x43a x43n x43c), .r (.tuple #[]) H2, .e] (ai (decide_eq_true h1) (ai h2 (ai h3 (ai h4 (ai h5 (Eq.refl (Sum.inl ([Value.slice x3a x3n x3c, Value.slice x38a x38n x38c, Value.int .i64 x39, Value.int .i64 (x40 + 1)], H2) : LS ⊕ LO))))))) (by kernel_rfl)
theorem f33_L2_1 {x3a : Option Addr} {x3n x3c : Nat} {x38a : Option Addr} {x38n x38c : Nat} {x39 x40 : Int} {H0 : AHeap} {prot : Nat} {H : AHeap} (h1 : ¬(x40 < x39)) : lpOf cfg a33 2 prot H0 ([.slice x3a x3n x3c, .slice x38a x38n x38c, .int .i64 x39, .int .i64 x40], H) = some (Sum.inr (Ex.exit 4, [Value.slice x3a x3n x3c], H)) :=
  lp_of2 [.e, .b false] (ai (decide_eq_false h1) (Eq.refl (Sum.inr (Ex.exit 4, [Value.slice x3a x3n x3c], H) : LS ⊕ LO))) (by kernel_rfl)
end Go.Proofs.Ytkemihfaohkoeaa.Am11
set_option linter.unusedVariables false
open Go Go.Proofs.Ytkemihfaohkoeaa.Am
namespace Go.Proofs.Ytkemihfaohkoeaa.Am11
theorem f34_F_0 {x0a : Option Addr} {x0n x0c : Nat} {H : AHeap} {prot : Nat} {z3a : Option Addr} {z3n z3c : Nat} {H1 : AHeap} (rv : Value) (rH : AHeap) (h1 : 0 ≤ (↑x0n : Int)) (h2 : (↑x0n : Int) = (↑x0n : Int)) (h3 : (↑x0n : Int) ≤ 9223372036854775807) (h4 : (↑24 : Int) * (↑x0n : Int) ≤ 2 ^ 48) (h5 : lpInf (lpOf cfg a34 0 prot H) ([Value.slice x0a x0n x0c, Value.slice (some ⟨List.length H, 0, some ((↑x0n : Int).toNat * 1)⟩) (↑x0n : Int).toNat (↑x0n : Int).toNat, Value.int .i64 0], H ++ [AObj.cells (repCells [Value.slice none 0 0] (↑x0n : Int).toNat) 34 (repCells [Value.slice none 0 0] (↑x0n : Int).toNat).length OMode.row]) = some (Ex.exit 0, [Value.slice z3a z3n z3c], H1)) (h6 : pfin a34 H [Value.slice z3a z3n z3c] H1 = (rv, rH)) : callInf cfg 34 [.slice x0a x0n x0c] prot H = some (rv, rH) :=
  fn_of2 a34 [.e, .e, .lo (.exit 0, [.slice z3a z3n z3c], H1)] (ai h1 (ai h2 (ai h3 (ai h4 (ai h5 h6))))) (by kernel_rfl) rfl
theorem f34_L0_0 {x0a : Option Addr} {x0n x0c : Nat} {x3a : Option Addr} {x3n x3c : Nat} {x4 : Int} {H0 : AHeap} {prot : Nat} {H : AHeap} {z0a : Option Addr} {z0n z0c : Nat} {z3a : Option Addr} {z3n z3c : Nat} {z4 : Int} {H2 : AHeap} (h1 : x4 < (↑x0n : Int)) (h2 : lpInf (lpOf cfg a34 1 prot H0) ([Value.slice x0a x0n x0c, Value.slice x3a x3n x3c, Value.int .i64 x4, Value.int .i64 0], H) = some (Ex.exit 2, [Value.slice z0a z0n z0c, Value.slice z3a z3n z3c, Value.int .i64 z4], H2)) (h3 : Fit .i64 (z4 + 1)) : lpOf cfg a34 0 prot H0 ([.slice x0a x0n x0c, .slice x3a x3n x3c, .int .i64 x4], H) = some (Sum.inl ([Value.slice z0a z0n z0c, Value.slice z3a z3n z3c, Value.int .i64 (z4 + 1)], H2)) :=
  lp_of2 [.e, .e, .b true, .lo (.exit 2, [.slice z0a z0n z0c, .slice z3a z3n z3c, .int .i64 z4], H2), .e] (ai (decide_eq_true h1) (ai h2 (ai h3 (Eq.refl (Sum.inl ([Value.slice z0a z0n z0c, Value.slice z3a z3n z3c, Value.int .i64 (z4 + 1)], H2) : LS ⊕ LO))))) (by kernel_rfl)
theorem f34_L0_1 {x0a : Option Addr} {x0n x0c : Nat} {x3a : Option Addr} {x3n x3c : Nat} {x4 : Int} {H0 : AHeap} {prot : Nat} {H : AHeap} (h1 : ¬(x4 < (↑x0n : Int))) : lpOf cfg a34 0 prot H0 ([.slice x0a x0n x0c, .slice x3a x3n x3c, .int .i64 x4], H) = some (Sum.inr (Ex.exit 0, [Value.slice x3a x3n x3c], H)) :=
  lp_of2 [.e, .e, .b false] (ai (decide_eq_false h1) (Eq.refl (Sum.inr (Ex.exit 0, [Value.slice x3a x3n x3c], H) : LS ⊕ LO))) (by kernel_rfl)
theorem f34_L1_0 {x0a : Option Addr} {x0n x0c : Nat} {x3a : Option Addr} {x3n x3c : Nat} {x4 x5 : Int} {H0 : AHeap} {prot : Nat} {H : AHeap} {x18p x18o x18l : Nat} {x19a : Option Addr} {x19n x19c x27p x27o x27l : Nat} {x28a : Option Addr} {x28n x28c x30p x30o x30l : Nat} {x31 : Int} {x35p x35o x35l : Nat} {x36a : Option Addr} {x36n x36c x38p x38o x38l : Nat} {x39 : Int} {x40p x40o x40l : Nat} {x41a : Option Addr} {x41n x41c : Nat} {x44a : Option Addr} {x44n x44c : Nat} {H2 : AHeap} {x45p x45o x45l : Nat} {H3 : AHeap} (h1 : aindexAddr cfg.P 22 (Value.slice x0a x0n x0c) (Value.int .i64 x4) = some (Value.pointer (some ⟨x18p, x18o, some x18l⟩))) (h2 : getCells H x18p x18l x18o 1 = some [Value.slice x19a x19n x19c]) (h3 : x5 < (↑x19n : Int)) (h4 : aindexAddr cfg.P 22 (Value.slice x0a x0n x0c) (Value.int .i64 x4) = some (Value.pointer (some ⟨x27p, x27o, some x27l⟩))) (h5 : getCells H x27p x27l x27o 1 = some [Value.slice x28a x28n x28c]) (h6 : aindexAddr cfg.P 34 (Value.slice x28a x28n x28c) (Value.int .i64 x5) = some (Value.pointer (some ⟨x30p, x30o, some x30l⟩))) (h7 : getCells H x30p x30l x30o 1 = some [Value.int .i64 x31]) (h8 : aindexAddr cfg.P 22 (Value.slice x0a x0n x0c) (Value.int .i64 x4) = some (Value.pointer (some ⟨x35p, x35o, some x35l⟩))) (h9 : getCells H x35p x35l x35o 1 = some [Value.slice x36a x36n x36c]) (h10 : aindexAddr cfg.P 34 (Value.slice x36a x36n x36c) (Value.int .i64 x5) = some (Value.pointer (some ⟨x38p, x38o, some x38l⟩))) (h11 : getCells H x38p x38l x38o 1 = some [Value.int .i64 x39]) (h12 : aindexAddr cfg.P 22 (Value.slice x3a x3n x3c) (Value.int .i64 x39) = some (Value.pointer (some ⟨x40p, x40o, some x40l⟩))) (h13 : getCells H x40p x40l x40o 1 = some [Value.slice x41a x41n x41c]) (h14 : aappend cfg.P (List.length H0) false 34 34 (Value.slice x41a x41n x41c) (Value.slice (some ⟨List.length H, 0, some (1 * 1)⟩) 1 1) (H ++ [wo [Value.int .i64 x4] 3]) = some (Value.slice x44a x44n x44c, H2)) (h15 : aindexAddr cfg.P 22 (Value.slice x3a x3n x3c) (Value.int .i64 x31) = some (Value.pointer (some ⟨x45p, x45o, some x45l⟩))) (h16 : [Value.slice x44a x44n x44c].length = 1) (h17 : setCells H2 (List.length H0) x45p x45l x45o [Value.slice x44a x44n x44c] = some H3) (h18 : Fit .i64 (x5 + 1)) : lpOf cfg a34 1 prot H0 ([.slice x0a x0n x0c, .slice x3a x3n x3c, .int .i64 x4, .int .i64 x5], H) = some (Sum.inl ([Value.slice x0a x0n x0c, Value.slice x3a x3n x3c, Value.int .i64 x4, Value.int .i64 (x5 + 1)], H3)) :=
  lp_of2 [.v (.pointer (some ⟨x18p, x18o, some x18l⟩)), .v (.slice x19a x19n x19c), .e, .e, .b true, .v (.pointer (some ⟨x27p, x27o, some x27l⟩)), .v (.slice x28a x28n x28c), .v (.pointer (some ⟨x30p, x30o, some x30l⟩)), .v (.int .i64 x31), .v (.pointer (some ⟨x35p, x35o, some x35l⟩)), .v (.slice x36a x36n x36c), .v (.pointer (some ⟨x38p, x38o, some x38l⟩)), .v (.int .i64 x39), .v (.pointer (some ⟨x40p, x40o, some x40l⟩)), .v (.slice x41a x41n x41c), .e, .r (.slice x44a x44n x44c) H2, .v (.pointer (some ⟨x45p, x45o, some x45l⟩)), .h H3, .e] (ai h1 (ai h2 (ai (decide_eq_true h3) (ai h4 (ai h5 (ai h6 (ai h7 (ai h8 (ai h9 (ai h10 (ai h11 (ai h12 (ai h13 (ai h14 (ai h15 (ai h16 (ai h17 (ai h18 (Eq.refl (Sum.inl ([Value.slice x0a x0n x0c, Value.slice x3a x3n x3c, Value.int .i64 x4, Value.int .i64 (x5 + 1)], H3) : LS ⊕ LO)))))))))))))))))))) (by kernel_rfl)
theorem f34_L1_1 {x0a : Option Addr} {x0n x0c : Nat} {x3a : Option Addr} {x3n x3c : Nat} {x4 x5 : Int} {H0 : AHeap} {prot : Nat} {H : AHeap} {x18p x18o x18l : Nat} {x19a : Option Addr} {x19n x19c : Nat} (h1 : aindexAddr cfg.P 22 (Value.slice x0a x0n x0c) (Value.int .i64 x4) = some (Value.pointer (some ⟨x18p, x18o, some x18l⟩))) (h2 : getCells H x18p x18l x18o 1 = some [Value.slice x19a x19n x19c]) (h3 : ¬(x5 < (↑x19n : Int))) : lpOf cfg a34 1 prot H0 ([.slice x0a x0n x0c, .slice x3a x3n x3c, .int .i64 x4, .int .i64 x5], H) = some (Sum.inr (Ex.exit 2, [Value.slice x0a x0n x0c, Value.slice x3a x3n x3c, Value.int .i64 x4], H)) :=
  lp_of2 [.v (.pointer (some ⟨x18p, x18o, some x18l⟩)), .v (.slice x19a x19n x19c), .e, .e, .b false] (ai h1 (ai h2 (ai (decide_eq_false h3) (Eq.refl (Sum.inr (Ex.exit 2, [Value.slice x0a x0n x0c, Value.slice x3a x3n x3c, Value.int .i64 x4], H) : LS ⊕ LO))))) (by kernel_rfl)
end Go.Proofs.Ytkemihfaohkoeaa.Am11
namespace Go.Proofs.Ytkemihfaohkoeaa.Am11
open Go Go.Proofs.Ytkemihfaohkoeaa.Am
/-! All edges turned round. -/
def addE (T : Nat → List Nat) (u v : Nat) : Nat → List Nat := fun j => if j = u then T u ++ [v] else T j
def goRow (v : Nat) : List Nat → (Nat → List Nat) → Nat → List Nat
  | [], T => T
  | u :: l, T => goRow v l (addE T u v)
def goAll (G : List (List Int)) : Nat → Nat → (Nat → List Nat) → Nat → List Nat
  | 0, _, T => T
  | d + 1, v, T => goAll G d (v + 1) (goRow v (sc G v) T)
def turnT (G : List (List Int)) : Nat → List Nat := goAll G G.length 0 (fun _ => [])
/-- They rise. -/
def RisL (T : Nat → List Nat) (v : Nat) : Prop := ∀ j, (T j).Pairwise (· ≤ ·) ∧ ∀ x ∈ T j, x ≤ v
theorem RisL.add {T : Nat → List Nat} {u v : Nat} (h : RisL T v) : RisL (addE T u v) v := fun j => by
  unfold addE
  by_cases e : j = u
  · rw [if_pos e]
    refine ⟨List.pairwise_append.2 ⟨(h u).1, List.pairwise_singleton _ _, fun a ha b hb => ?_⟩, fun x hx => ?_⟩
    · rw [List.mem_singleton.1 hb]; exact (h u).2 a ha
    · rcases List.mem_append.1 hx with hx | hx
      · exact (h u).2 x hx
      · rw [List.mem_singleton.1 hx]; exact Nat.le_refl _
  · rw [if_neg e]; exact h j
theorem RisL.row {v : Nat} : ∀ (l : List Nat) {T : Nat → List Nat}, RisL T v → RisL (goRow v l T) v
  | [], _, h => h
  | _ :: l, _, h => RisL.row l h.add
theorem RisL.all {G : List (List Int)} : ∀ (d v : Nat) {T : Nat → List Nat}, RisL T v → RisL (goAll G d v T) (v + d)
  | 0, v, T, h => h
  | d + 1, v, T, h => by
    rw [goAll, show v + (d + 1) = v + 1 + d by omega]
    refine RisL.all d (v + 1) fun j => ?_
    have := RisL.row (sc G v) h j
    exact ⟨this.1, fun x hx => by have := this.2 x hx; omega⟩
theorem ris_of {l : List Nat} (h : l.Pairwise (· ≤ ·)) : Ris l := fun i j hij hj => by
  rw [List.getD_eq_getElem?_getD, List.getD_eq_getElem?_getD, List.getElem?_eq_getElem hj, List.getElem?_eq_getElem (show i < l.length by omega)]
  simp only [Option.getD_some]
  by_cases e : i = j
  · subst e; exact Nat.le_refl _
  · exact List.pairwise_iff_getElem.1 h i j _ hj (by omega)
theorem turn_ris (G : List (List Int)) (j : Nat) : Ris (turnT G j) := ris_of (RisL.all (G := G) G.length 0 (T := fun _ => []) (fun j => ⟨List.Pairwise.nil, fun x hx => by cases hx⟩) j).1

/-! ### The machine -/
structure Out (B : Nat) (H : AHeap) (x3 : Value) (N : Nat) (r : Nat → Value) (o : Nat → Option Nat) (o3 : Nat) (T : Nat → List Nat) : Prop where
  x3 : Own H 34 1 x3 (some o3) N ((List.range N).map r)
  rx : ∀ j, j < N → Own H 3 1 (r j) (o j) (T j).length (il (nl (T j)))
  b3 : B ≤ o3
  bo : ∀ j, j < N → ∀ a, o j = some a → B ≤ a
  dis : Dis N o
theorem range_at {N : Nat} (r : Nat → Value) {u : Nat} (h : u < N) : ((List.range N).map r)[u]? = some (r u) := by rw [List.getElem?_map, List.getElem?_range h]; rfl
theorem own_lt {H : AHeap} {e s : Nat} {x : Value} {id n : Nat} {cs : List Value} (h : Own H e s x (some id) n cs) : id < H.length := by
  obtain ⟨_, _, _, wr, _, h2⟩ := h
  exact (List.getElem?_eq_some_iff.1 h2).1
theorem Out.app {B : Nat} {H : AHeap} {x3 : Value} {N : Nat} {r : Nat → Value} {o : Nat → Option Nat} {o3 : Nat} {T : Nat → List Nat} (h : Out B H x3 N r o o3 T) {u : Nat} (hu : u < N) (v : Nat) {room : Bool} (hn : (T u).length ≤ 10000000) (hB : B ≤ H.length) :
    ∃ a' c' H2 H3 id3 L3, aindexAddr cfg.P 22 x3 (.int .i64 (u : Nat)) = some (.pointer (some ⟨id3, u, some L3⟩)) ∧ getCells H id3 L3 u 1 = some [r u] ∧
      aappend cfg.P B room 34 34 (r u) (.slice (some ⟨H.length, 0, some (1 * 1)⟩) 1 1) (H ++ [wo [.int .i64 (v : Int)] 3]) = some (.slice a' ((T u).length + 1) c', H2) ∧
      setCells H2 B id3 L3 u [.slice a' ((T u).length + 1) c'] = some H3 ∧ (∃ r' o', Out B H3 x3 N r' o' o3 (addE T u v)) ∧ (∀ q, q < B → H3[q]? = H[q]?) ∧ B ≤ H3.length := by
  have hru := h.rx u hu
  obtain ⟨a', c', ou, H2, q1, q2, q3, q4, q5, q6⟩ := own_app T34 hru (ecs := [.int .i64 (v : Int)]) rfl rfl (prot := B) (room := room) (fun id e => h.bo u hu id e) hB (by omega) (L := 1 * 1) rfl (el := [Value.int .i64 (v : Int)].length) rfl
  obtain ⟨id, e3, p1, p2⟩ := own_at T22 h.x3 (range_at r hu)
  cases e3
  have hx2 : Own H2 34 1 x3 (some o3) N ((List.range N).map r) := by
    cases ho : o u with
    | none => rw [ho] at q3; exact h.x3.stay q3 (fun _ _ e => by cases e)
    | some a =>
      rw [ho] at q3 hru
      obtain ⟨_, _, _, wr, _, hH⟩ := hru
      exact h.x3.stayE hH (by decide) q3
  obtain ⟨id, H3, e3, s1, s2, s3, s4, s5⟩ := own_setS T22 hx2 (i := u) (j := 0) hu (vs := [.slice a' ((T u).length + 1) c']) (by simp) rfl (prot := B) (fun id e => by cases e; exact h.b3)
  cases e3
  obtain ⟨_, _, _, wr3, _, hH3⟩ := hx2
  have hput : putList ((List.range N).map r) (u * 1 + 0) [.slice a' ((T u).length + 1) c'] = (List.range N).map (fun j => if j = u then .slice a' ((T u).length + 1) c' else r j) := by
    rw [Nat.mul_one, Nat.add_zero, put_one _ (by simp; exact hu)]
    apply List.ext_getElem?
    intro j
    by_cases e : j = u
    · subst e
      rw [List.getElem?_set_self (by simp; exact hu), range_at _ hu, if_pos rfl]
    · rw [List.getElem?_set_ne (fun h => e h.symm), List.getElem?_map, List.getElem?_map]
      by_cases hj : j < N
      · rw [List.getElem?_range hj]; simp [e]
      · rw [List.getElem?_eq_none (by simp; omega)]; rfl
  rw [hput] at s3
  have hil : il (nl (T u)) ++ [Value.int .i64 (v : Int)] = il (nl (T u ++ [v])) := by simp [il, nl]
  rw [hil] at q2
  rw [Nat.mul_one, Nat.add_zero] at s2
  refine ⟨a', c', H2, H3, o3, _, p1, p2, q1, s2, ⟨_, fun j => if j = u then some ou else o j, s3, fun j hj => ?_, h.b3, fun j hj a ha => ?_, ?_⟩, fun q hq => ?_, ?_⟩
  · by_cases e : j = u
    · subst e
      rw [if_pos rfl, if_pos rfl]
      unfold addE
      rw [if_pos rfl, List.length_append]
      exact q2.stayE hH3 (by decide) s4
    · rw [if_neg e, if_neg e]
      unfold addE
      rw [if_neg e]
      exact ((h.rx j hj).stay q3 (fun id e1 e2 => h.dis j u hj hu e id e1 e2)).stayE hH3 (by decide) s4
  · by_cases e : j = u
    · subst e
      rw [if_pos rfl] at ha
      cases ha
      exact q4
    · rw [if_neg e] at ha
      exact h.bo j hj a ha
  · have hnew : ∀ j, j < N → j ≠ u → o j ≠ some ou := fun j hj hne e => by
      cases ho : o u with
      | none =>
        have h1 := q5 ho
        have h2 := h.rx j hj
        rw [e] at h2
        have := own_lt h2
        omega
      | some a =>
        have h1 := q6 a ho
        exact h.dis j u hj hu hne ou e (by rw [ho, h1])
    intro i j hi hj hne a ha hb
    simp only at ha hb
    by_cases e1 : i = u
    · have e2 : j ≠ u := fun e2 => hne (by rw [e1, e2])
      rw [if_pos e1] at ha
      rw [if_neg e2] at hb
      cases ha
      exact hnew j hj e2 hb
    · rw [if_neg e1] at ha
      by_cases e2 : j = u
      · rw [if_pos e2] at hb
        cases hb
        exact hnew i hi e1 ha
      · rw [if_neg e2] at hb
        exact h.dis i j hi hj hne a ha hb
  · have hb3 := h.b3
    rw [s4.2 q (by have := q3.1; omega) (fun e => by have := Option.some.inj e; omega)]
    exact q3.2 q (by omega) (fun e => by have := h.bo u hu q e; omega)
  · have := q3.1; have := s4.1; omega
end Go.Proofs.Ytkemihfaohkoeaa.Am11
namespace Go.Proofs.Ytkemihfaohkoeaa.Am11
open Go Go.Proofs.Ytkemihfaohkoeaa.Am
theorem keep_stay {B : AHeap} {H : AHeap} (h1 : ∀ q, q < B.length → H[q]? = B[q]?) (h2 : B.length ≤ H.length) : Stay none B H := ⟨h2, fun q hq _ => h1 q hq⟩
theorem addE_len {T : Nat → List Nat} {u v j : Nat} : (addE T u v j).length ≤ (T j).length + 1 := by
  unfold addE
  split
  · rename_i h; subst h; simp
  · omega
theorem loop33i {G : List (List Int)} (hG : Good G) {H0 : AHeap} {x13 x20 : Value} (hx13 : ∃ a c, x13 = .slice a G.length c) {v : Nat} (hv : v < G.length) (h20 : Rd H0 3 1 x20 G[v].length (il G[v])) {x3 : Value} {o3 prot rest : Nat} : ∀ (d i : Nat) (T : Nat → List Nat) (r : Nat → Value) (o : Nat → Option Nat) (H : AHeap), i + d = G[v].length → Out H0.length H x3 G.length r o o3 T → Stay none H0 H → (∀ j, (T j).length + (d + rest) ≤ 1048576) →
    ∃ r' o' H', lpInf (lpOf cfg a33 1 prot H0) ([x3, .int .i64 v, x13, .int .i64 G.length, .int .i64 v, x20, .int .i64 G[v].length, .int .i64 i], H) = some (.exit 2, [x3, x13, .int .i64 G.length, .int .i64 v], H') ∧ Out H0.length H' x3 G.length r' o' o3 (goRow v ((sc G v).drop i) T) ∧ Stay none H0 H' ∧ ∀ j, (goRow v ((sc G v).drop i) T j).length + rest ≤ 1048576
  | 0, i, T, r, o, H, hi, hO, hst, hb => by
    have hl := sc_len hv
    rw [List.drop_of_length_le (by omega)]
    refine ⟨r, o, H, ?_, hO, hst, fun j => by have := hb j; simp only [goRow]; omega⟩
    obtain ⟨_, _, rfl⟩ := hx13
    obtain ⟨_, _, rfl⟩ := h20.len
    obtain ⟨_, _, rfl⟩ := hO.x3.len
    exact lp_last (f33_L1_1 (by omega))
  | d + 1, i, T, r, o, H, hi, hO, hst, hb => by
    have hil : i < G[v].length := by omega
    have hl := sc_len hv
    have hsh := hG.2.1 _ (List.getElem_mem hv)
    obtain ⟨u, hue, hul, hsc⟩ := sc_get hG hv hil
    obtain ⟨id, L, a1, a2⟩ := rd_at T34 (h20.stay hst) (il_get hil)
    rw [hue] at a2
    have hbu := hb u
    obtain ⟨a', c', H2, H3, id3, L3, p1, p2, p3, p4, ⟨r', o', p5⟩, p6, p7⟩ := hO.app hul v (room := true) (by omega) hst.1
    have hst3 : Stay none H0 H3 := keep_stay (fun q hq => (p6 q hq).trans (hst.2 q hq (by simp))) p7
    obtain ⟨r2, o2, H', z1, z2, z3, z4⟩ := loop33i hG hx13 hv h20 (prot := prot) (rest := rest) d (i + 1) (addE T u v) r' o' H3 (by omega) p5 hst3 (fun j => by have := hb j; have := addE_len (T := T) (u := u) (v := v) (j := j); omega)
    have hdrop : (sc G v).drop i = u :: (sc G v).drop (i + 1) := by
      rw [List.drop_eq_getElem_cons (by omega)]
      rw [List.getElem?_eq_getElem (by omega)] at hsc
      rw [Option.some.inj hsc]
    rw [hdrop]
    refine ⟨r2, o2, H', ?_, z2, z3, z4⟩
    have hrl := (hO.rx u hul).len
    obtain ⟨_, _, rfl⟩ := hx13
    obtain ⟨_, _, rfl⟩ := h20.len
    obtain ⟨_, _, rfl⟩ := hO.x3.len
    obtain ⟨_, _, hre⟩ := hrl
    rw [hre] at p2 p3
    exact lp_next (f33_L1_0 (by omega) a1 a2 p1 p2 p3 p1 rfl p4 (fit64 (by omega) (by omega))) z1
def lens (l : List (List Int)) : Nat := (l.map List.length).sum
theorem loop33o {G : List (List Int)} (hG : Good G) {H0 : AHeap} {x13 : Value} (hg : Gr H0 x13 G) {x3 : Value} {o3 prot : Nat} : ∀ (d v : Nat) (T : Nat → List Nat) (r : Nat → Value) (o : Nat → Option Nat) (H : AHeap), v + d = G.length → Out H0.length H x3 G.length r o o3 T → Stay none H0 H → (∀ j, (T j).length + lens (G.drop v) ≤ 1048576) →
    ∃ r' o' H', lpInf (lpOf cfg a33 0 prot H0) ([x3, x13, .int .i64 G.length, .int .i64 v], H) = some (.exit 0, [x3], H') ∧ Out H0.length H' x3 G.length r' o' o3 (goAll G d v T) ∧ Stay none H0 H' ∧ ∀ j, (goAll G d v T j).length ≤ 1048576
  | 0, v, T, r, o, H, hv, hO, hst, hb => by
    refine ⟨r, o, H, ?_, hO, hst, fun j => by have := hb j; simp only [goAll]; omega⟩
    obtain ⟨_, _, rfl⟩ := hg.len
    obtain ⟨_, _, rfl⟩ := hO.x3.len
    exact lp_last (f33_L0_1 (by omega))
  | d + 1, v, T, r, o, H, hv, hO, hst, hb => by
    have hvl : v < G.length := by omega
    have h5 := hG.1
    obtain ⟨id, L, x20, a1, a2, a3⟩ := hg.row hvl
    obtain ⟨id', L', x20', a1', a2', a3'⟩ := (hg.stay hst).row hvl
    have hsplit : lens (G.drop v) = G[v].length + lens (G.drop (v + 1)) := by
      unfold lens
      rw [List.drop_eq_getElem_cons hvl, List.map_cons, List.sum_cons]
    -- the row, read in the base and now
    obtain ⟨cs, c1, c2⟩ := hg
    obtain ⟨x, c3, c4⟩ := c2 v G[v] (List.getElem?_eq_getElem hvl)
    obtain ⟨i1, M1, d1, d2⟩ := rd_at T22 (c1.stay hst) c3
    obtain ⟨r1, o1, H1, y1, y2, y3, y4⟩ := loop33i hG c1.len hvl c4 (x3 := x3) (o3 := o3) (prot := prot) (rest := lens (G.drop (v + 1))) G[v].length 0 T r o H (by omega) hO hst (fun j => by have := hb j; omega)
    rw [List.drop_zero] at y2 y4
    obtain ⟨r2, o2, H', z1, z2, z3, z4⟩ := loop33o hG ⟨cs, c1, c2⟩ (x3 := x3) (o3 := o3) (prot := prot) d (v + 1) _ r1 o1 H1 (by omega) y2 y3 y4
    refine ⟨r2, o2, H', ?_, z2, z3, z4⟩
    obtain ⟨_, _, rfl⟩ := c1.len
    obtain ⟨_, _, rfl⟩ := hO.x3.len
    obtain ⟨_, _, rfl⟩ := c4.len
    exact lp_next (f33_L0_0 (by omega) d1 d2 y1 (fit64 (by omega) (by omega))) z1
theorem loop33s {H0 H : AHeap} {x3 : Value} {N : Nat} (h5 : N ≤ 512) {r : Nat → Value} {o : Nat → Option Nat} {o3 prot B : Nat} {T : Nat → List Nat} (hO : Out B H x3 N r o o3 T) (hs : ∀ j, Ris (T j)) (hb : ∀ j, (T j).length ≤ 1048576) : ∀ (d i : Nat), i + d = N →
    lpInf (lpOf cfg a33 2 prot H0) ([x3, x3, .int .i64 N, .int .i64 i], H) = some (.exit 4, [x3], H)
  | 0, i, hi => by
    obtain ⟨_, _, rfl⟩ := hO.x3.len
    exact lp_last (f33_L2_1 (by omega))
  | d + 1, i, hi => by
    have hil : i < N := by omega
    obtain ⟨id, e, a1, a2⟩ := own_at T22 hO.x3 (range_at r hil)
    have h45 := c45 (hs i) (by have := hb i; omega) H0.length (hO.rx i hil).rd
    have ih := loop33s h5 (H0 := H0) (prot := prot) hO hs hb d (i + 1) (by omega)
    have hrl := (hO.rx i hil).len
    obtain ⟨_, _, rfl⟩ := hO.x3.len
    obtain ⟨_, _, hre⟩ := hrl
    rw [hre] at a2 h45
    exact lp_next (f33_L2_0 (by omega) a1 a2 h45 (fit64 (by omega) (by omega))) ih
/-- Lists of lists, each of one's own. -/
structure Mine (B : Nat) (H : AHeap) (x : Value) (N : Nat) (T : Nat → List Nat) : Prop where
  ex : (∃ r o o3, Out B H x N r o o3 T) ∨ (N = 0 ∧ ∃ id, x = .slice (some ⟨id, 0, some 0⟩) 0 0 ∧ B ≤ id ∧ H[id]? = some (.cells [] 34 0 .row))
theorem Mine.stay {B : Nat} {H H' : AHeap} {x : Value} {N : Nat} {T : Nat → List Nat} (h : Mine B H x N T) (s : Stay none H H') : Mine B H' x N T := by
  rcases h.ex with ⟨r, o, o3, h⟩ | ⟨h0, id, h1, h2, h3⟩
  · exact ⟨.inl ⟨r, o, o3, h.x3.stay s (fun _ _ e => by cases e), fun j hj => (h.rx j hj).stay s (fun _ _ e => by cases e), h.b3, h.bo, h.dis⟩⟩
  · exact ⟨.inr ⟨h0, id, h1, h2, by rw [s.2 id (List.getElem?_eq_some_iff.1 h3).1 (by simp)]; exact h3⟩⟩
theorem Mine.rd {B : Nat} {H : AHeap} {x : Value} {N : Nat} {T : Nat → List Nat} (h : Mine B H x N T) : ∃ cs, Rd H 34 1 x N cs ∧ ∀ j, j < N → ∃ r, cs[j]? = some r ∧ Rd H 3 1 r (T j).length (il (nl (T j))) := by
  rcases h.ex with ⟨r, o, o3, h⟩ | ⟨h0, id, h1, h2, h3⟩
  · exact ⟨_, h.x3.rd, fun j hj => ⟨r j, range_at r hj, (h.rx j hj).rd⟩⟩
  · subst h0; subst h1
    exact ⟨[], ⟨rfl, .inr ⟨id, 0, 0, .row, 0, [], rfl, Nat.le_refl _, Nat.le_refl _, Nat.le_refl _, h3, rfl⟩⟩, fun j hj => by omega⟩
theorem Mine.weak {B C : Nat} {H : AHeap} {x : Value} {N : Nat} {T : Nat → List Nat} (h : Mine B H x N T) (hc : C ≤ B) : Mine C H x N T := by
  rcases h.ex with ⟨r, o, o3, h⟩ | ⟨h0, id, h1, h2, h3⟩
  · exact ⟨.inl ⟨r, o, o3, h.x3, h.rx, Nat.le_trans hc h.b3, fun j hj a ha => Nat.le_trans hc (h.bo j hj a ha), h.dis⟩⟩
  · exact ⟨.inr ⟨h0, id, h1, Nat.le_trans hc h2, h3⟩⟩
theorem out_start {N : Nat} (hN : 0 < N) (H : AHeap) : Out H.length (H ++ [.cells (repCells [.slice none 0 0] N) 34 (repCells [.slice none 0 0] N).length .row]) (.slice (some ⟨H.length, 0, some (N * 1)⟩) N N) N (fun _ => .slice none 0 0) (fun _ => none) H.length (fun _ => []) := by
  have h := own_mk (e := 34) hN H (.slice none 0 0)
  refine ⟨?_, fun j hj => own_nil, Nat.le_refl _, fun j hj a ha => (by cases ha), fun i j hi hj hne a ha => (by cases ha)⟩
  have e : List.replicate N (Value.slice none 0 0) = (List.range N).map (fun _ => Value.slice none 0 0) := by
    rw [List.map_const', List.length_range]
  rw [← e]
  exact h
/-- Lists that are not all nil are not plain; if all are nil, they are copied. -/
theorem gc_mine {H H1 : AHeap} {x : Value} {N : Nat} {T : Nat → List Nat} (hm : Mine H.length H1 x N T) (hst : Stay none H H1) {ps : List Value} (hps : ps.all plain1 = true) :
    ∃ x' H', gc H (x :: ps) H1 = (tupled (x' :: ps), H') ∧ Mine H.length H' x' N T ∧ Stay none H H' := by
  rcases hm.ex with ⟨r, o, o3, h⟩ | ⟨h0, id, h1, h2, h3⟩
  · by_cases hp : ((List.range N).map r).all plain0 = true
    · obtain ⟨x', o', H', g1, g2, g3, g4, g5⟩ := gc_row (H := H) h.x3 (fun id e => by cases e; exact h.b3) hp hps
      have hN : 0 < N := h.x3.2.1
      cases ho' : o' with
      | none => rw [ho'] at g2; have := g2.2.1; omega
      | some o4 =>
        rw [ho'] at g2 g4
        refine ⟨x', H', g1, ⟨.inl ⟨r, o, o4, g2, fun j hj => ?_, g4 o4 rfl, h.bo, h.dis⟩⟩, g3⟩
        have hj2 := h.rx j hj
        have hpl := List.all_eq_true.1 hp (r j) (List.mem_map.2 ⟨j, List.mem_range.2 hj, rfl⟩)
        cases hoj : o j with
        | none => rw [hoj] at hj2; exact hj2
        | some a =>
          rw [hoj] at hj2
          rw [hj2.2.2.1] at hpl
          cases hpl
    · refine ⟨x, H1, ?_, hm, hst⟩
      have hp : ((List.range N).map r).all plain0 = false := by simpa using hp
      obtain ⟨hl, hn, hx, wr, hwr, hH⟩ := h.x3
      have hk : keepAll H.length H1 (x :: ps) [] = none := by
        rw [hx]
        simp only [keepAll, keep1]
        split
        · rfl
        · rw [hH]
          simp [hp]
      unfold gc
      rw [hk]
      have hnd : noDup (sliceIds (x :: ps)) = true := by
        rw [hx]
        simp [sliceIds, sliceIds_plain ps hps, noDup]
      rw [if_pos hnd]
  · subst h0; subst h1
    refine ⟨.slice (some ⟨H.length, 0, some 0⟩) 0 0, H ++ [.cells [] 34 0 .row], ?_, ⟨.inr ⟨rfl, H.length, rfl, Nat.le_refl _, append_get.1⟩⟩, Stay.app none H _⟩
    unfold gc
    simp only [gcHeap]
    simp only [sliceIds, sliceIds_plain ps hps, noDup, List.contains_nil, Bool.not_false, Bool.and_self, if_true, keepAll, keep1]
    rw [if_neg (by omega), h3]
    simp only
    rw [if_pos ⟨rfl, by simp⟩, Option.bind_some, keepAll_plain ps _ hps]
    simp

theorem c33 {G : List (List Int)} (hG : Good G) (hE : lens G ≤ 1048576) {vG : Value} (prot : Nat) {H : AHeap} (hg : Gr H vG G) : ∃ x' H', callInf cfg 33 [vG] prot H = some (x', H') ∧ Mine H.length H' x' G.length (turnT G) ∧ Stay none H H' := by
  have h5 := hG.1
  obtain ⟨HA, hHA⟩ : ∃ HA, HA = H ++ [AObj.cells (repCells [.slice none 0 0] G.length) 34 (repCells [.slice none 0 0] G.length).length .row] := ⟨_, rfl⟩
  have sA : Stay none H HA := by rw [hHA]; exact Stay.app none H _
  have key : ∃ x1 H1 H2, lpInf (lpOf cfg a33 0 prot H) ([.slice (some ⟨H.length, 0, some (G.length * 1)⟩) G.length G.length, vG, .int .i64 G.length, .int .i64 0], HA) = some (.exit 0, [x1], H1) ∧ lpInf (lpOf cfg a33 2 prot H) ([x1, x1, .int .i64 G.length, .int .i64 0], H1) = some (.exit 4, [x1], H2) ∧ Mine H.length H2 x1 G.length (turnT G) ∧ Stay none H H2 := by
    by_cases h0 : 0 < G.length
    · have hO := out_start h0 H
      rw [← hHA] at hO
      obtain ⟨r', o', H1, z1, z2, z3, z4⟩ := loop33o hG hg (prot := prot) G.length 0 _ _ _ HA (by omega) hO sA (fun j => by simpa [lens] using hE)
      have hs := loop33s h5 (H0 := H) (prot := prot) z2 (turn_ris G) z4 G.length 0 (by omega)
      exact ⟨_, H1, H1, z1, hs, ⟨.inl ⟨r', o', _, z2⟩⟩, z3⟩
    · have hn : G = [] := List.eq_nil_of_length_eq_zero (by omega)
      subst hn
      obtain ⟨_, _, rfl⟩ := hg.len
      refine ⟨_, HA, HA, lp_last (f33_L0_1 (by decide)), lp_last (f33_L2_1 (by decide)), ⟨.inr ⟨rfl, H.length, rfl, Nat.le_refl _, ?_⟩⟩, sA⟩
      rw [hHA]
      exact append_get.1
  obtain ⟨x1, H1, H2, y1, y2, y3, y4⟩ := key
  obtain ⟨x', H', g1, g2, g3⟩ := gc_mine y3 y4 (ps := []) rfl
  refine ⟨x', H', ?_, g2, g3⟩
  obtain ⟨_, hx1, _⟩ := y3.rd
  obtain ⟨_, _, hxe⟩ := hx1.len
  obtain ⟨_, _, rfl⟩ := hg.len
  subst hxe
  subst hHA
  exact f33_F_0 _ _ (by omega) rfl (by omega) (by omega) y1 y2 (by rw [pfin_eq, if_neg (by simp [a33])]; exact g1)
end Go.Proofs.Ytkemihfaohkoeaa.Am11
namespace Go.Proofs.Ytkemihfaohkoeaa.Am
open Go
/-! Sets of numbers below 512, as eight words. -/
def natOf (f : Nat → Bool) : Nat → Nat
  | 0 => 0
  | n + 1 => natOf f n ||| (if f n then 2 ^ n else 0)
def wordS (S : Nat → Bool) (w : Nat) : Nat := natOf (fun b => S (64 * w + b)) 64
def setL (S : Nat → Bool) : List Value := (List.range 8).map fun w => .int .u64 ((wordS S w : Nat) : Int)
def setA (S : Nat → Bool) : Array Value := ⟨setL S⟩
/-- One number more. -/
def addS (S : Nat → Bool) (i : Nat) : Nat → Bool := fun j => S j || decide (j = i)
def noS : Nat → Bool := fun _ => false
end Go.Proofs.Ytkemihfaohkoeaa.Am
namespace Go.Proofs.Ytkemihfaohkoeaa.Am11
open Go Go.Proofs.Ytkemihfaohkoeaa.Am
end Go.Proofs.Ytkemihfaohkoeaa.Am11
set_option linter.unusedVariables false
open Go Go.Proofs.Ytkemihfaohkoeaa.Am
namespace Go.Proofs.Ytkemihfaohkoeaa.Am11
end Go.Proofs.Ytkemihfaohkoeaa.Am11
set_option linter.unusedVariables false
open Go Go.Proofs.Ytkemihfaohkoeaa.Am
namespace Go.Proofs.Ytkemihfaohkoeaa.Am11
end Go.Proofs.Ytkemihfaohkoeaa.Am11
set_option linter.unusedVariables false
open Go Go.Proofs.Ytkemihfaohkoeaa.Am
namespace Go.Proofs.Ytkemihfaohkoeaa.Am11
end Go.Proofs.Ytkemihfaohkoeaa.Am11
set_option linter.unusedVariables false
open Go Go.Proofs.Ytkemihfaohkoeaa.Am
namespace Go.Proofs.Ytkemihfaohkoeaa.Am11
end Go.Proofs.Ytkemihfaohkoeaa.Am11
namespace Go.Proofs.Ytkemihfaohkoeaa.Am11
open Go Go.Proofs.Ytkemihfaohkoeaa.Am
end Go.Proofs.Ytkemihfaohkoeaa.Am11
set_option linter.unusedVariables false
open Go Go.Proofs.Ytkemihfaohkoeaa.Am
namespace Go.Proofs.Ytkemihfaohkoeaa.Am11
end Go.Proofs.Ytkemihfaohkoeaa.Am11
namespace Go.Proofs.Ytkemihfaohkoeaa.Am11
open Go Go.Proofs.Ytkemihfaohkoeaa.Am
/-- All that is reached, the vertex too. -/
noncomputable def rs (G : List (List Int)) (f : Nat) : Nat → Bool := fun x => @decide (x = f ∨ Rch G f x) (Classical.propDecidable _)
/-- What Reach answers. -/
noncomputable def reachV (G : List (List Int)) (f : Int) : (Nat → Bool) × Int :=
  if chk G ≠ 0 then (noS, chk G) else if f < 0 ∨ (G.length : Int) ≤ f then (noS, 3) else (rs G f.toNat, 0)
end Go.Proofs.Ytkemihfaohkoeaa.Am11
set_option linter.unusedVariables false
open Go Go.Proofs.Ytkemihfaohkoeaa.Am
namespace Go.Proofs.Ytkemihfaohkoeaa.Am11
end Go.Proofs.Ytkemihfaohkoeaa.Am11
namespace Go.Proofs.Ytkemihfaohkoeaa.Am11
open Go Go.Proofs.Ytkemihfaohkoeaa.Am
theorem loop26i {G : List (List Int)} (hs : Short G) {x : Value} {H0 H : AHeap} {prot : Nat} (hx : Gr H x G) {v : Nat} (hv : v < G.length) : ∀ (d i : Nat), i + d = G[v].length →
    lpInf (lpOf cfg a26 1 prot H0) ([x, .int .i64 v, .int .i64 i], H) =
      some (if bad G.length (G[v].drop i) then (.ret, [x, .int .i64 11, .int .i64 v], H) else (.exit 2, [x, .tuple #[], .int .i64 v], H))
  | 0, i, hi => by
    obtain ⟨id, L, r, a1, a2, a3⟩ := hx.row hv
    rw [List.drop_of_length_le (by omega)]
    obtain ⟨_, _, rfl⟩ := hx.len
    obtain ⟨_, _, rfl⟩ := a3.len
    exact lp_last (f26_L1_3 a1 a2 (by omega))
  | d + 1, i, hi => by
    obtain ⟨id, L, r, a1, a2, a3⟩ := hx.row hv
    have hl := hs _ (List.getElem_mem hv)
    have hil : i < G[v].length := by omega
    obtain ⟨id2, L2, p, q⟩ := rd_at T34 a3 (il_get hil)
    have ih := loop26i hs hx hv (H0 := H0) (prot := prot) d (i + 1) (by omega)
    rw [List.drop_eq_getElem_cons hil]
    unfold bad at ih ⊢
    rw [List.any_cons]
    obtain ⟨_, _, rfl⟩ := hx.len
    obtain ⟨_, _, rfl⟩ := a3.len
    by_cases h1 : G[v][i] < 0
    · rw [decide_eq_true (.inl h1), Bool.true_or, if_pos rfl]
      exact lp_last (f26_L1_0 a1 a2 (by omega) a1 a2 p q h1)
    · by_cases h2 : (G.length : Int) ≤ G[v][i]
      · rw [decide_eq_true (.inr h2), Bool.true_or, if_pos rfl]
        exact lp_last (f26_L1_1 a1 a2 (by omega) a1 a2 p q h1 a1 a2 p q (by omega))
      · rw [decide_eq_false (by omega), Bool.false_or]
        exact lp_next (f26_L1_2 a1 a2 (by omega) a1 a2 p q h1 a1 a2 p q (by omega) (fit64 (by omega) (by omega))) ih
theorem loop26o {G : List (List Int)} (hs : Short G) (hn : G.length ≤ 512) {x : Value} {H0 H : AHeap} {prot : Nat} (hx : Gr H x G) : ∀ (d i : Nat), i + d = G.length →
    ∃ e vs, lpInf (lpOf cfg a26 0 prot H0) ([x, .int .i64 i], H) = some (e, vs, H) ∧ ((e = .exit 0 ∧ vs = [.tuple #[]] ∧ (G.drop i).any (bad G.length) = false) ∨ (e = .ret ∧ vs = [.int .i64 11] ∧ (G.drop i).any (bad G.length) = true))
  | 0, i, hi => by
    rw [List.drop_of_length_le (by omega)]
    obtain ⟨_, _, rfl⟩ := hx.len
    exact ⟨_, _, lp_last (f26_L0_2 (by omega)), .inl ⟨rfl, rfl, rfl⟩⟩
  | d + 1, i, hi => by
    have hil : i < G.length := by omega
    obtain ⟨e, vs, z1, z2⟩ := loop26o hs hn hx (H0 := H0) (prot := prot) d (i + 1) (by omega)
    have hlp := loop26i hs hx hil (H0 := H0) (prot := prot) (G[i]).length 0 (by omega)
    rw [List.drop_zero] at hlp
    rw [List.drop_eq_getElem_cons hil, List.any_cons]
    obtain ⟨_, _, rfl⟩ := hx.len
    cases hb : bad G.length G[i] with
    | true =>
      rw [hb, if_pos rfl] at hlp
      exact ⟨_, _, lp_last (f26_L0_1 (by omega) hlp), .inr ⟨rfl, rfl, rfl⟩⟩
    | false =>
      rw [hb, if_neg (by simp)] at hlp
      exact ⟨e, vs, lp_next (f26_L0_0 (by omega) hlp (fit64 (by omega) (by omega))) z1, z2⟩
theorem c26 {G : List (List Int)} (hs : Short G) {x : Value} (prot : Nat) {H : AHeap} (hx : Gr H x G) : callInf cfg 26 [x] prot H = some (.int .i64 (chk G), H) := by
  obtain ⟨a, c, hxe⟩ := hx.len
  unfold chk
  by_cases h : 512 < G.length
  · rw [if_pos h]
    subst hxe
    exact f26_F_0 (by omega)
  · rw [if_neg h]
    obtain ⟨e, vs, z1, z2⟩ := loop26o hs (by omega) hx (H0 := H) (prot := prot) G.length 0 (by omega)
    rw [List.drop_zero] at z2
    subst hxe
    rcases z2 with ⟨rfl, rfl, h3⟩ | ⟨rfl, rfl, h3⟩
    · rw [h3, if_neg (by simp)]
      exact f26_F_1 (by omega) z1
    · rw [h3, if_pos rfl]
      exact f26_F_2 (by omega) z1

end Go.Proofs.Ytkemihfaohkoeaa.Am11
set_option linter.unusedVariables false
open Go Go.Proofs.Ytkemihfaohkoeaa.Am
namespace Go.Proofs.Ytkemihfaohkoeaa.Am11
theorem f32_F_0 {x0a : Option Addr} {x0n x0c : Nat} {H : AHeap} {prot : Nat} {x6a : Option Addr} {x6n x6c : Nat} {H1 : AHeap} {x9a : Option Addr} {x9n x9c : Nat} {H2 : AHeap} {x13a : Option Addr} {x13n x13c : Nat} (rv : Value) (rH : AHeap) (h1 : aappend cfg.P (List.length H) true 34 34 (Value.slice (some { block := 0, off := 0 }) 0 0) (Value.slice x0a x0n x0c) H = some (Value.slice x6a x6n x6c, H1)) (h2 : aappend cfg.P (List.length H) true 34 34 (Value.slice x6a x6n x6c) (Value.slice (some ⟨List.length H1, 0, some (2 * 1)⟩) 2 2) (H1 ++ [wo [Value.int .i64 (-77), Value.int .i64 (-78)] 3]) = some (Value.slice x9a x9n x9c, H2)) (h3 : aslice cfg.P 34 (Value.slice x9a x9n x9c) none (some (Value.int .i64 (↑x0n : Int))) none H2 = some (Value.slice x13a x13n x13c)) (h4 : pfin a32 H [Value.slice x13a x13n x13c] H2 = (rv, rH)) : callInf cfg 32 [.slice x0a x0n x0c] prot H = some (rv, rH) :=
  fn_of2 a32 [.e, .r (.slice x6a x6n x6c) H1, .e, .r (.slice x9a x9n x9c) H2, .e, .v (.slice x13a x13n x13c)] (ai h1 (ai h2 (ai h3 h4))) (by kernel_rfl) rfl
end Go.Proofs.Ytkemihfaohkoeaa.Am11
set_option linter.unusedVariables false
open Go Go.Proofs.Ytkemihfaohkoeaa.Am
namespace Go.Proofs.Ytkemihfaohkoeaa.Am11
theorem f27_F_0 {x0a : Option Addr} {x0n x0c : Nat} {x1a : Option Addr} {x1n x1c : Nat} {H : AHeap} {prot : Nat} (h1 : ((↑x0n : Int) != (↑x1n : Int)) = true) : callInf cfg 27 [.slice x0a x0n x0c, .slice x1a x1n x1c] prot H = some (Value.bool false, H) :=
  fn_of2 a27 [.e, .e, .e, .b true] (ai h1 (Eq.refl ((Value.bool false, H) : Value × AHeap))) (by kernel_rfl) rfl
theorem f27_F_1 {x0a : Option Addr} {x0n x0c : Nat} {x1a : Option Addr} {x1n x1c : Nat} {H : AHeap} {prot : Nat} {z4 : Value} {H1 : AHeap} (h1 : ((↑x0n : Int) != (↑x1n : Int)) = false) (h2 : lpInf (lpOf cfg a27 0 prot H) ([Value.slice x0a x0n x0c, Value.slice x1a x1n x1c, Value.int .i64 0], H) = some (Ex.exit 0, [z4], H1)) : callInf cfg 27 [.slice x0a x0n x0c, .slice x1a x1n x1c] prot H = some (Value.bool true, H) :=
  fn_of2 a27 [.e, .e, .e, .b false, .lo (.exit 0, [z4], H1)] (ai h1 (ai h2 (Eq.refl ((Value.bool true, H) : Value × AHeap)))) (by kernel_rfl) rfl
theorem f27_F_2 {x0a : Option Addr} {x0n x0c : Nat} {x1a : Option Addr} {x1n x1c : Nat} {H : AHeap} {prot : Nat} {z4 : Bool} {H1 : AHeap} (h1 : ((↑x0n : Int) != (↑x1n : Int)) = false) (h2 : lpInf (lpOf cfg a27 0 prot H) ([Value.slice x0a x0n x0c, Value.slice x1a x1n x1c, Value.int .i64 0], H) = some (Ex.ret, [Value.bool z4], H1)) : callInf cfg 27 [.slice x0a x0n x0c, .slice x1a x1n x1c] prot H = some (Value.bool z4, H) :=
  fn_of2 a27 [.e, .e, .e, .b false, .lo (.ret, [.bool z4], H1)] (ai h1 (ai h2 (Eq.refl ((Value.bool z4, H) : Value × AHeap)))) (by kernel_rfl) rfl
theorem f27_L0_0 {x0a : Option Addr} {x0n x0c : Nat} {x1a : Option Addr} {x1n x1c : Nat} {x5 : Int} {H0 : AHeap} {prot : Nat} {H : AHeap} {x19p x19o x19l : Nat} {x20 : Int} {x23p x23o x23l : Nat} {x24 : Int} (h1 : x5 < (↑x0n : Int)) (h2 : aindexAddr cfg.P 34 (Value.slice x0a x0n x0c) (Value.int .i64 x5) = some (Value.pointer (some ⟨x19p, x19o, some x19l⟩))) (h3 : getCells H x19p x19l x19o 1 = some [Value.int .i64 x20]) (h4 : aindexAddr cfg.P 34 (Value.slice x1a x1n x1c) (Value.int .i64 x5) = some (Value.pointer (some ⟨x23p, x23o, some x23l⟩))) (h5 : getCells H x23p x23l x23o 1 = some [Value.int .i64 x24]) (h6 : (x20 != x24) = true) : lpOf cfg a27 0 prot H0 ([.slice x0a x0n x0c, .slice x1a x1n x1c, .int .i64 x5], H) = some (Sum.inr (Ex.ret, [Value.bool false], H)) :=
  lp_of2 [.e, .e, .b true, .v (.pointer (some ⟨x19p, x19o, some x19l⟩)), .v (.int .i64 x20), .v (.pointer (some ⟨x23p, x23o, some x23l⟩)), .v (.int .i64 x24), .e, .b true] (ai (decide_eq_true h1) (ai h2 (ai h3 (ai h4 (ai h5 (ai h6 (Eq.refl (Sum.inr (Ex.ret, [Value.bool false], H) : LS ⊕ LO)))))))) (by kernel_rfl)
theorem f27_L0_1 {x0a : Option Addr} {x0n x0c : Nat} {x1a : Option Addr} {x1n x1c : Nat} {x5 : Int} {H0 : AHeap} {prot : Nat} {H : AHeap} {x19p x19o x19l : Nat} {x20 : Int} {x23p x23o x23l : Nat} {x24 : Int} (h1 : x5 < (↑x0n : Int)) (h2 : aindexAddr cfg.P 34 (Value.slice x0a x0n x0c) (Value.int .i64 x5) = some (Value.pointer (some ⟨x19p, x19o, some x19l⟩))) (h3 : getCells H x19p x19l x19o 1 = some [Value.int .i64 x20]) (h4 : aindexAddr cfg.P 34 (Value.slice x1a x1n x1c) (Value.int .i64 x5) = some (Value.pointer (some ⟨x23p, x23o, some x23l⟩))) (h5 : getCells H x23p x23l x23o 1 = some [Value.int .i64 x24]) (h6 : (x20 != x24) = false) (h7 : Fit .i64 (x5 + 1)) : lpOf cfg a27 0 prot H0 ([.slice x0a x0n x0c, .slice x1a x1n x1c, .int .i64 x5], H) = some (Sum.inl ([Value.slice x0a x0n x0c, Value.slice x1a x1n x1c, Value.int .i64 (x5 + 1)], H)) :=
  lp_of2 [.e, .e, .b true, .v (.pointer (some ⟨x19p, x19o, some x19l⟩)), .v (.int .i64 x20), .v (.pointer (some ⟨x23p, x23o, some x23l⟩)), .v (.int .i64 x24), .e, .b false, .e] (ai (decide_eq_true h1) (ai h2 (ai h3 (ai h4 (ai h5 (ai h6 (ai h7 (Eq.refl (Sum.inl ([Value.slice x0a x0n x0c, Value.slice x1a x1n x1c, Value.int .i64 (x5 + 1)], H) : LS ⊕ LO))))))))) (by kernel_rfl)
theorem f27_L0_2 {x0a : Option Addr} {x0n x0c : Nat} {x1a : Option Addr} {x1n x1c : Nat} {x5 : Int} {H0 : AHeap} {prot : Nat} {H : AHeap} (h1 : ¬(x5 < (↑x0n : Int))) : lpOf cfg a27 0 prot H0 ([.slice x0a x0n x0c, .slice x1a x1n x1c, .int .i64 x5], H) = some (Sum.inr (Ex.exit 0, [Value.tuple { toList := [] }], H)) :=
  lp_of2 [.e, .e, .b false] (ai (decide_eq_false h1) (Eq.refl (Sum.inr (Ex.exit 0, [Value.tuple { toList := [] }], H) : LS ⊕ LO))) (by kernel_rfl)
end Go.Proofs.Ytkemihfaohkoeaa.Am11
set_option linter.unusedVariables false
open Go Go.Proofs.Ytkemihfaohkoeaa.Am
namespace Go.Proofs.Ytkemihfaohkoeaa.Am11
theorem f35_F_0 {x0a : Option Addr} {x0n x0c : Nat} {x1a : Option Addr} {x1n x1c : Nat} {H : AHeap} {prot : Nat} {x10a : Option Addr} {x10n x10c : Nat} {x14a : Option Addr} {x14n x14c : Nat} {x16 : Bool} {x21p x21o x21l : Nat} {x22 : Int} {x30p x30o x30l : Nat} {x31 : Int} (h1 : Fit .i64 ((↑x1n : Int) + 2)) (h2 : aslice cfg.P 34 (Value.slice x0a x0n x0c) none (some (Value.int .i64 ((↑x1n : Int) + 2))) none H = some (Value.slice x10a x10n x10c)) (h3 : aslice cfg.P 34 (Value.slice x10a x10n x10c) none (some (Value.int .i64 (↑x1n : Int))) none H = some (Value.slice x14a x14n x14c)) (h4 : callInf cfg 27 [Value.slice x14a x14n x14c, Value.slice x1a x1n x1c] (List.length H) H = some (Value.bool x16, H)) (h5 : x16 = true) (h6 : aindexAddr cfg.P 34 (Value.slice x10a x10n x10c) (Value.int .i64 (↑x1n : Int)) = some (Value.pointer (some ⟨x21p, x21o, some x21l⟩))) (h7 : getCells H x21p x21l x21o 1 = some [Value.int .i64 x22]) (h8 : (x22 == -77) = true) (h9 : Fit .i64 ((↑x1n : Int) + 1)) (h10 : aindexAddr cfg.P 34 (Value.slice x10a x10n x10c) (Value.int .i64 ((↑x1n : Int) + 1)) = some (Value.pointer (some ⟨x30p, x30o, some x30l⟩))) (h11 : getCells H x30p x30l x30o 1 = some [Value.int .i64 x31]) : callInf cfg 35 [.slice x0a x0n x0c, .slice x1a x1n x1c] prot H = some (Value.bool (x31 == -78), H) :=
  fn_of2 a35 [.e, .e, .v (.slice x10a x10n x10c), .e, .v (.slice x14a x14n x14c), .v (.bool x16), .b true, .b true, .b true, .e, .b true, .v (.pointer (some ⟨x21p, x21o, some x21l⟩)), .b true, .v (.int .i64 x22), .b true, .e, .b true, .b true, .b true, .b true, .e, .b true, .e, .b true, .v (.pointer (some ⟨x30p, x30o, some x30l⟩)), .b true, .v (.int .i64 x31), .b true, .e, .b true] (ai h1 (ai h2 (ai h3 (ai h4 (ai h5 (ai h5 (ai h5 (ai h5 (ai h6 (ai h5 (ai h7 (ai h5 (ai h5 (ai h8 (ai h8 (ai h8 (ai h8 (ai h9 (ai h8 (ai h10 (ai h8 (ai h11 (ai h8 (ai h8 (Eq.refl ((Value.bool (x31 == -78), H) : Value × AHeap)))))))))))))))))))))))))) (by kernel_rfl) rfl
end Go.Proofs.Ytkemihfaohkoeaa.Am11
namespace Go.Proofs.Ytkemihfaohkoeaa.Am11
open Go Go.Proofs.Ytkemihfaohkoeaa.Am
def lentC (l : List Int) : List Value := il l ++ [.int .i64 (-77), .int .i64 (-78)]
/-- A list that was lent. -/
structure LR (H : AHeap) (r : Value) (l : List Int) (id : Nat) : Prop where
  e : r = .slice (some ⟨id, 0, some (l.length + 2)⟩) l.length (l.length + 2)
  g : ∃ wr md, wr ≤ l.length + 2 ∧ H[id]? = some (.cells (lentC l) 3 wr md)
theorem lentC_len (l) : (lentC l).length = l.length + 2 := by simp [lentC, il]
theorem LR.rd {H : AHeap} {r : Value} {l : List Int} {id : Nat} (h : LR H r l id) : Rd H 3 1 r l.length (il l) := by
  obtain ⟨wr, md, h1, h2⟩ := h.g
  refine ⟨by simp [il], .inr ⟨id, l.length + 2, wr, md, _, lentC l, h.e, h1, by rw [lentC_len]; exact Nat.le_refl _, by omega, h2, ?_⟩⟩
  unfold lentC
  rw [List.take_append_of_le_length (by simp [il]), List.take_of_length_le (by simp [il])]
theorem LR.stay {H H' : AHeap} {r : Value} {l : List Int} {id : Nat} (h : LR H r l id) {o : Option Nat} (k : Stay o H H') (ho : o ≠ some id) : LR H' r l id := by
  obtain ⟨wr, md, h1, h2⟩ := h.g
  exact ⟨h.e, wr, md, h1, by rw [k.2 id (List.getElem?_eq_some_iff.1 h2).1 ho]; exact h2⟩
theorem c32 {l : List Int} {x : Value} (hn : l.length * 8 + 16 ≤ 140737488355328) (prot : Nat) (H : AHeap) (hx : Rd H 3 1 x l.length (il l)) :
    ∃ r H', callInf cfg 32 [x] prot H = some (r, H') ∧ LR H' r l H.length ∧ Stay none H H' ∧ H'.length = H.length + 1 := by
  obtain ⟨aN, cN, rfl⟩ := hx.len
  obtain ⟨a, c, o, H1, q1, q2, q3, q4, q5⟩ := own_grow T34 (.inr rfl) hx (il_cell _) (prot := H.length) (room := true) (by omega)
  obtain ⟨HY, hHY⟩ : ∃ HY, HY = H1 ++ [AObj.cells [.int .i64 (-77), .int .i64 (-78)] 3 2 .row] := ⟨_, rfl⟩
  have hY : Rd HY 3 1 (.slice (some ⟨H1.length, 0, some (2 * 1)⟩) 2 2) 2 [.int .i64 (-77), .int .i64 (-78)] := by rw [hHY]; exact (own_new rfl (by omega) rfl rfl).rd
  have sY : Stay none H1 HY := by rw [hHY]; exact Stay.app none H1 _
  obtain ⟨o', H2, r1, r2, r3, r4, r5⟩ := own_appR T34 (q2.stay sY (fun id _ h => by cases h)) hY (by omega) rfl (prot := H.length) (room := true) q4 (by omega)
  have ho' : H.length ≤ o' := by
    cases o with
    | none => rw [r5 rfl]; have := q3.1; have := sY.1; omega
    | some id => rw [r4 id rfl]; exact q4 id rfl
  obtain ⟨h1, h2, h3, wr, h4, h5⟩ := r2
  have hlen := lentC_len l
  have hpf : gc H [.slice (some ⟨o', 0, some (lentC l).length⟩) l.length (l.length + 2)] H2 = (.slice (some ⟨H.length, 0, some (lentC l).length⟩) l.length (l.length + 2), H ++ [.cells (lentC l) 3 wr .row]) := by
    unfold gc
    have hnd : noDup (sliceIds [.slice (some ⟨o', 0, some (lentC l).length⟩) l.length (l.length + 2)]) = true := rfl
    rw [if_pos hnd]
    have h5' : H2[o']? = some (.cells (lentC l) 3 wr .row) := h5
    have hall : (lentC l).all plain0 = true := by unfold lentC; rw [List.all_append, il_plain]; rfl
    simp only [keepAll, keep1]
    rw [if_neg (by omega), h5']
    simp [hall]
    rfl
  rw [hlen] at hpf
  refine ⟨_, _, ?_, ⟨rfl, wr, .row, by rw [← hlen]; exact h4, append_get.1⟩, Stay.app none H _, by simp⟩
  have hsl : aslice cfg.P 34 (.slice (some ⟨o', 0, some ((l.length + 2) * 1)⟩) (l.length + 2) (l.length + 2)) none (some (.int .i64 (l.length : Int))) none H2 = some (.slice (some ⟨o', 0, some (l.length + 2)⟩) l.length (l.length + 2)) := by
    unfold aslice
    simp only [T34.un, boundOf, Option.bind_some, T34.sz]
    rw [if_pos (by omega)]
    simp
  subst hHY
  exact f32_F_0 _ _ q1 r1 hsl (by rw [pfin_eq]; exact hpf)

/-- Are lists the same? -/
theorem loop27 {l m : List Int} (hlm : l.length = m.length) (hl : l.length ≤ 140737488355328) {x y : Value} {H0 H : AHeap} {prot : Nat} (hx : Rd H 3 1 x l.length (il l)) (hy : Rd H 3 1 y m.length (il m)) : ∀ (d i : Nat), i + d = l.length →
    lpInf (lpOf cfg a27 0 prot H0) ([x, y, .int .i64 i], H) = some (if l.drop i = m.drop i then (.exit 0, [.tuple #[]], H) else (.ret, [.bool false], H))
  | 0, i, hi => by
    rw [List.drop_of_length_le (by omega), List.drop_of_length_le (by omega), if_pos rfl]
    obtain ⟨_, _, rfl⟩ := hx.len
    obtain ⟨_, _, rfl⟩ := hy.len
    exact lp_last (f27_L0_2 (by omega))
  | d + 1, i, hi => by
    have h1 : i < l.length := by omega
    have h2 : i < m.length := by omega
    obtain ⟨i1, L1, p1, q1⟩ := rd_at T34 hx (il_get h1)
    obtain ⟨i2, L2, p2, q2⟩ := rd_at T34 hy (il_get h2)
    have ih := loop27 hlm hl hx hy (H0 := H0) (prot := prot) d (i + 1) (by omega)
    rw [List.drop_eq_getElem_cons h1, List.drop_eq_getElem_cons h2]
    obtain ⟨_, _, rfl⟩ := hx.len
    obtain ⟨_, _, rfl⟩ := hy.len
    by_cases e : l[i] = m[i]
    · rw [e] at q1
      have e2 : (if l[i] :: l.drop (i + 1) = m[i] :: m.drop (i + 1) then ((Ex.exit 0, [Value.tuple #[]], H) : Ex × List Value × AHeap) else (.ret, [.bool false], H)) = (if l.drop (i + 1) = m.drop (i + 1) then (.exit 0, [.tuple #[]], H) else (.ret, [.bool false], H)) := by
        by_cases hh : l.drop (i + 1) = m.drop (i + 1)
        · rw [if_pos hh, if_pos (by rw [e, hh])]
        · rw [if_neg hh, if_neg (fun h => hh (List.cons.inj h).2)]
      rw [e2]
      exact lp_next (f27_L0_1 (by omega) p1 q1 p2 q2 (by simp) (fit64 (by omega) (by omega))) ih
    · rw [if_neg (by intro h; exact e (List.cons.inj h).1)]
      exact lp_last (f27_L0_0 (by omega) p1 q1 p2 q2 (by simpa using e))
theorem c27 {l m : List Int} (hl : l.length ≤ 140737488355328) {x y : Value} (prot : Nat) {H : AHeap} (hx : Rd H 3 1 x l.length (il l)) (hy : Rd H 3 1 y m.length (il m)) :
    callInf cfg 27 [x, y] prot H = some (.bool (decide (l = m)), H) := by
  have h := hx.len
  have h' := hy.len
  by_cases e : l.length = m.length
  · have hlp := loop27 e hl hx hy (H0 := H) (prot := prot) l.length 0 (by omega)
    simp only [List.drop_zero] at hlp
    obtain ⟨_, _, rfl⟩ := h
    obtain ⟨_, _, rfl⟩ := h'
    by_cases e2 : l = m
    · rw [if_pos e2] at hlp
      rw [decide_eq_true e2]
      exact f27_F_1 (by simp [e]) hlp
    · rw [if_neg e2] at hlp
      rw [decide_eq_false e2]
      exact f27_F_2 (by simp [e]) hlp
  · rw [decide_eq_false (fun h => e (by rw [h]))]
    obtain ⟨_, _, rfl⟩ := h
    obtain ⟨_, _, rfl⟩ := h'
    exact f27_F_0 (by simp; omega)

/-- Is it as it was? -/
theorem c35 {l : List Int} (hl : l.length * 8 + 16 ≤ 140737488355328) {x y : Value} {id : Nat} (prot : Nat) {H : AHeap} (hx : LR H x l id) (hy : Rd H 3 1 y l.length (il l)) :
    callInf cfg 35 [x, y] prot H = some (.bool true, H) := by
  obtain ⟨wr, md, h1, h2⟩ := hx.g
  have hrd := hx.rd
  have hxe := hx.e
  have s1 : aslice cfg.P 34 x none (some (.int .i64 ((l.length : Int) + 2))) none H = some (.slice (some ⟨id, 0, some (l.length + 2)⟩) (l.length + 2) (l.length + 2)) := by
    rw [hxe]
    unfold aslice
    simp only [T34.un, boundOf, Option.bind_some, T34.sz]
    rw [if_pos (by omega)]
    simp only [Option.bind_some]
    rw [if_pos (by omega), if_pos (by omega)]
    simp
    omega
  have s2 : aslice cfg.P 34 (.slice (some ⟨id, 0, some (l.length + 2)⟩) (l.length + 2) (l.length + 2)) none (some (.int .i64 (l.length : Int))) none H = some x := by
    rw [hxe]
    unfold aslice
    simp only [T34.un, boundOf, Option.bind_some, T34.sz]
    rw [if_pos (by omega)]
    simp
  have hall : Rd H 3 1 (.slice (some ⟨id, 0, some (l.length + 2)⟩) (l.length + 2) (l.length + 2)) (l.length + 2) (lentC l) :=
    ⟨by rw [lentC_len]; omega, .inr ⟨id, l.length + 2, wr, md, _, lentC l, rfl, h1, by rw [lentC_len]; exact Nat.le_refl _, by omega, h2, by rw [List.take_of_length_le (by rw [lentC_len]; omega)]⟩⟩
  have g1 : (lentC l)[l.length]? = some (.int .i64 (-77)) := by unfold lentC; rw [List.getElem?_append_right (by simp [il])]; simp [il]
  have g2 : (lentC l)[l.length + 1]? = some (.int .i64 (-78)) := by unfold lentC; rw [List.getElem?_append_right (by simp [il])]; simp [il]
  obtain ⟨i1, L1, p1, q1⟩ := rd_at T34 hall g1
  obtain ⟨i2, L2, p2, q2⟩ := rd_at T34 hall g2
  have h27 := c27 (by omega) H.length hrd hy
  rw [decide_eq_true rfl] at h27
  obtain ⟨_, _, rfl⟩ := hy.len
  subst hxe
  exact f35_F_0 (x31 := -78) (fit64 (by omega) (by omega)) s1 s2 h27 rfl p1 q1 rfl (fit64 (by omega) (by omega)) (by exact_mod_cast p2) q2
end Go.Proofs.Ytkemihfaohkoeaa.Am11
set_option linter.unusedVariables false
open Go Go.Proofs.Ytkemihfaohkoeaa.Am
namespace Go.Proofs.Ytkemihfaohkoeaa.Am11
theorem f10_F_0 {x0a : Option Addr} {x0n x0c : Nat} {H : AHeap} {prot : Nat} {x6 : Int} (h1 : callInf cfg 25 [Value.slice x0a x0n x0c] (List.length H) H = some (Value.int .i64 x6, H)) (h2 : (x6 != 0) = true) : callInf cfg 10 [.slice x0a x0n x0c] prot H = some (Value.tuple { toList := [Value.slice none 0 0, Value.int .i64 x6] }, H) :=
  fn_of2 a10 [.v (.int .i64 x6), .e, .b true] (ai h1 (ai h2 (Eq.refl ((Value.tuple { toList := [Value.slice none 0 0, Value.int .i64 x6] }, H) : Value × AHeap)))) (by kernel_rfl) rfl
theorem f10_F_1 {x0a : Option Addr} {x0n x0c : Nat} {H : AHeap} {prot : Nat} {x6 : Int} {x11a : Option Addr} {x11n x11c : Nat} {H1 : AHeap} (rv : Value) (rH : AHeap) (h1 : callInf cfg 25 [Value.slice x0a x0n x0c] (List.length H) H = some (Value.int .i64 x6, H)) (h2 : (x6 != 0) = false) (h3 : callInf cfg 33 [Value.slice x0a x0n x0c] (List.length H) H = some (Value.slice x11a x11n x11c, H1)) (h4 : pfin a10 H [Value.slice x11a x11n x11c, Value.int .i64 0] H1 = (rv, rH)) : callInf cfg 10 [.slice x0a x0n x0c] prot H = some (rv, rH) :=
  fn_of2 a10 [.v (.int .i64 x6), .e, .b false, .r (.slice x11a x11n x11c) H1] (ai h1 (ai h2 (ai h3 h4))) (by kernel_rfl) rfl
end Go.Proofs.Ytkemihfaohkoeaa.Am11
set_option linter.unusedVariables false
open Go Go.Proofs.Ytkemihfaohkoeaa.Am
namespace Go.Proofs.Ytkemihfaohkoeaa.Am11
theorem f11_F_0 {x0a : Option Addr} {x0n x0c : Nat} {H : AHeap} {prot : Nat} {x6 : Int} (h1 : callInf cfg 26 [Value.slice x0a x0n x0c] (List.length H) H = some (Value.int .i64 x6, H)) (h2 : (x6 != 0) = true) : callInf cfg 11 [.slice x0a x0n x0c] prot H = some (Value.tuple { toList := [Value.slice none 0 0, Value.int .i64 x6] }, H) :=
  fn_of2 a11 [.v (.int .i64 x6), .e, .b true] (ai h1 (ai h2 (Eq.refl ((Value.tuple { toList := [Value.slice none 0 0, Value.int .i64 x6] }, H) : Value × AHeap)))) (by kernel_rfl) rfl
theorem f11_F_1 {x0a : Option Addr} {x0n x0c : Nat} {H : AHeap} {prot : Nat} {x6 : Int} {x11a : Option Addr} {x11n x11c : Nat} {H1 : AHeap} (rv : Value) (rH : AHeap) (h1 : callInf cfg 26 [Value.slice x0a x0n x0c] (List.length H) H = some (Value.int .i64 x6, H)) (h2 : (x6 != 0) = false) (h3 : callInf cfg 34 [Value.slice x0a x0n x0c] (List.length H) H = some (Value.slice x11a x11n x11c, H1)) (h4 : pfin a11 H [Value.slice x11a x11n x11c, Value.int .i64 0] H1 = (rv, rH)) : callInf cfg 11 [.slice x0a x0n x0c] prot H = some (rv, rH) :=
  fn_of2 a11 [.v (.int .i64 x6), .e, .b false, .r (.slice x11a x11n x11c) H1] (ai h1 (ai h2 (ai h3 h4))) (by kernel_rfl) rfl
end Go.Proofs.Ytkemihfaohkoeaa.Am11
set_option linter.unusedVariables false
open Go Go.Proofs.Ytkemihfaohkoeaa.Am
namespace Go.Proofs.Ytkemihfaohkoeaa.Am11
theorem f12_F_1 {x0a : Option Addr} {x0n x0c : Nat} {x1a : Option Addr} {x1n x1c : Nat} {H : AHeap} {prot : Nat} {z4 : Value} {H1 : AHeap} (h1 : ((↑x0n : Int) != (↑x1n : Int)) = false) (h2 : lpInf (lpOf cfg a12 0 prot H) ([Value.slice x0a x0n x0c, Value.slice x1a x1n x1c, Value.int .i64 0], H) = some (Ex.exit 0, [z4], H1)) : callInf cfg 12 [.slice x0a x0n x0c, .slice x1a x1n x1c] prot H = some (Value.bool true, H) :=
  fn_of2 a12 [.e, .e, .e, .b false, .lo (.exit 0, [z4], H1)] (ai h1 (ai h2 (Eq.refl ((Value.bool true, H) : Value × AHeap)))) (by kernel_rfl) rfl
theorem f12_L0_0 {x0a : Option Addr} {x0n x0c : Nat} {x1a : Option Addr} {x1n x1c : Nat} {x5 : Int} {H0 : AHeap} {prot : Nat} {H : AHeap} {x19p x19o x19l : Nat} {x20a : Option Addr} {x20n x20c x23p x23o x23l : Nat} {x24a : Option Addr} {x24n x24c : Nat} {x25 : Bool} (h1 : x5 < (↑x0n : Int)) (h2 : aindexAddr cfg.P 22 (Value.slice x0a x0n x0c) (Value.int .i64 x5) = some (Value.pointer (some ⟨x19p, x19o, some x19l⟩))) (h3 : getCells H x19p x19l x19o 1 = some [Value.slice x20a x20n x20c]) (h4 : aindexAddr cfg.P 22 (Value.slice x1a x1n x1c) (Value.int .i64 x5) = some (Value.pointer (some ⟨x23p, x23o, some x23l⟩))) (h5 : getCells H x23p x23l x23o 1 = some [Value.slice x24a x24n x24c]) (h6 : callInf cfg 27 [Value.slice x20a x20n x20c, Value.slice x24a x24n x24c] (List.length H0) H = some (Value.bool x25, H)) (h7 : (!x25) = false) (h8 : Fit .i64 (x5 + 1)) : lpOf cfg a12 0 prot H0 ([.slice x0a x0n x0c, .slice x1a x1n x1c, .int .i64 x5], H) = some (Sum.inl ([Value.slice x0a x0n x0c, Value.slice x1a x1n x1c, Value.int .i64 (x5 + 1)], H)) :=
  lp_of2 [.e, .e, .b true, .v (.pointer (some ⟨x19p, x19o, some x19l⟩)), .v (.slice x20a x20n x20c), .v (.pointer (some ⟨x23p, x23o, some x23l⟩)), .v (.slice x24a x24n x24c), .v (.bool x25), .e, .b false, .e] (ai (decide_eq_true h1) (ai h2 (ai h3 (ai h4 (ai h5 (ai h6 (ai h7 (ai h8 (Eq.refl (Sum.inl ([Value.slice x0a x0n x0c, Value.slice x1a x1n x1c, Value.int .i64 (x5 + 1)], H) : LS ⊕ LO)))))))))) (by kernel_rfl)
theorem f12_L0_2 {x0a : Option Addr} {x0n x0c : Nat} {x1a : Option Addr} {x1n x1c : Nat} {x5 : Int} {H0 : AHeap} {prot : Nat} {H : AHeap} (h1 : ¬(x5 < (↑x0n : Int))) : lpOf cfg a12 0 prot H0 ([.slice x0a x0n x0c, .slice x1a x1n x1c, .int .i64 x5], H) = some (Sum.inr (Ex.exit 0, [Value.tuple { toList := [] }], H)) :=
  lp_of2 [.e, .e, .b false] (ai (decide_eq_false h1) (Eq.refl (Sum.inr (Ex.exit 0, [Value.tuple { toList := [] }], H) : LS ⊕ LO))) (by kernel_rfl)
end Go.Proofs.Ytkemihfaohkoeaa.Am11
namespace Go.Proofs.Ytkemihfaohkoeaa.Am11
open Go Go.Proofs.Ytkemihfaohkoeaa.Am
theorem loop34i {G : List (List Int)} (hG : Good G) {H0 : AHeap} {x0 : Value} (hg : Gr H0 x0 G) {v : Nat} (hv : v < G.length) {x3 : Value} {o3 prot rest : Nat} : ∀ (d i : Nat) (T : Nat → List Nat) (r : Nat → Value) (o : Nat → Option Nat) (H : AHeap), i + d = G[v].length → Out H0.length H x3 G.length r o o3 T → Stay none H0 H → (∀ j, (T j).length + (d + rest) ≤ 1048576) →
    ∃ r' o' H', lpInf (lpOf cfg a34 1 prot H0) ([x0, x3, .int .i64 v, .int .i64 i], H) = some (.exit 2, [x0, x3, .int .i64 v], H') ∧ Out H0.length H' x3 G.length r' o' o3 (goRow v ((sc G v).drop i) T) ∧ Stay none H0 H' ∧ ∀ j, (goRow v ((sc G v).drop i) T j).length + rest ≤ 1048576
  | 0, i, T, r, o, H, hi, hO, hst, hb => by
    have hl := sc_len hv
    obtain ⟨id, L, y, a1, a2, a3⟩ := (hg.stay hst).row hv
    rw [List.drop_of_length_le (by omega)]
    refine ⟨r, o, H, ?_, hO, hst, fun j => by have := hb j; simp only [goRow]; omega⟩
    obtain ⟨_, _, rfl⟩ := hg.len
    obtain ⟨_, _, rfl⟩ := a3.len
    obtain ⟨_, _, rfl⟩ := hO.x3.len
    exact lp_last (f34_L1_1 a1 a2 (by omega))
  | d + 1, i, T, r, o, H, hi, hO, hst, hb => by
    have hil : i < G[v].length := by omega
    have hl := sc_len hv
    have hsh := hG.2.1 _ (List.getElem_mem hv)
    obtain ⟨u, hue, hul, hsc⟩ := sc_get hG hv hil
    obtain ⟨id0, L0, y, b1, b2, b3⟩ := (hg.stay hst).row hv
    obtain ⟨id, L, a1, a2⟩ := rd_at T34 b3 (il_get hil)
    rw [hue] at a2
    have hbu := hb u
    obtain ⟨a', c', H2, H3, id3, L3, p1, p2, p3, p4, ⟨r', o', p5⟩, p6, p7⟩ := hO.app hul v (room := false) (by omega) hst.1
    have hst3 : Stay none H0 H3 := keep_stay (fun q hq => (p6 q hq).trans (hst.2 q hq (by simp))) p7
    obtain ⟨r2, o2, H', z1, z2, z3, z4⟩ := loop34i hG hg hv (prot := prot) (rest := rest) d (i + 1) (addE T u v) r' o' H3 (by omega) p5 hst3 (fun j => by have := hb j; have := addE_len (T := T) (u := u) (v := v) (j := j); omega)
    have hdrop : (sc G v).drop i = u :: (sc G v).drop (i + 1) := by
      rw [List.drop_eq_getElem_cons (by omega)]
      rw [List.getElem?_eq_getElem (by omega)] at hsc
      rw [Option.some.inj hsc]
    rw [hdrop]
    refine ⟨r2, o2, H', ?_, z2, z3, z4⟩
    have hrl := (hO.rx u hul).len
    obtain ⟨_, _, rfl⟩ := hg.len
    obtain ⟨_, _, rfl⟩ := b3.len
    obtain ⟨_, _, rfl⟩ := hO.x3.len
    obtain ⟨_, _, hre⟩ := hrl
    rw [hre] at p2 p3
    exact lp_next (f34_L1_0 b1 b2 (by omega) b1 b2 a1 a2 b1 b2 a1 a2 p1 p2 p3 p1 rfl p4 (fit64 (by omega) (by omega))) z1
theorem loop34o {G : List (List Int)} (hG : Good G) {H0 : AHeap} {x0 : Value} (hg : Gr H0 x0 G) {x3 : Value} {o3 prot : Nat} : ∀ (d v : Nat) (T : Nat → List Nat) (r : Nat → Value) (o : Nat → Option Nat) (H : AHeap), v + d = G.length → Out H0.length H x3 G.length r o o3 T → Stay none H0 H → (∀ j, (T j).length + lens (G.drop v) ≤ 1048576) →
    ∃ r' o' H', lpInf (lpOf cfg a34 0 prot H0) ([x0, x3, .int .i64 v], H) = some (.exit 0, [x3], H') ∧ Out H0.length H' x3 G.length r' o' o3 (goAll G d v T) ∧ Stay none H0 H' ∧ ∀ j, (goAll G d v T j).length ≤ 1048576
  | 0, v, T, r, o, H, hv, hO, hst, hb => by
    refine ⟨r, o, H, ?_, hO, hst, fun j => by have := hb j; simp only [goAll]; omega⟩
    obtain ⟨_, _, rfl⟩ := hg.len
    obtain ⟨_, _, rfl⟩ := hO.x3.len
    exact lp_last (f34_L0_1 (by omega))
  | d + 1, v, T, r, o, H, hv, hO, hst, hb => by
    have hvl : v < G.length := by omega
    have h5 := hG.1
    have hsplit : lens (G.drop v) = G[v].length + lens (G.drop (v + 1)) := by
      unfold lens
      rw [List.drop_eq_getElem_cons hvl, List.map_cons, List.sum_cons]
    obtain ⟨r1, o1, H1, y1, y2, y3, y4⟩ := loop34i hG hg hvl (x3 := x3) (o3 := o3) (prot := prot) (rest := lens (G.drop (v + 1))) G[v].length 0 T r o H (by omega) hO hst (fun j => by have := hb j; omega)
    rw [List.drop_zero] at y2 y4
    obtain ⟨r2, o2, H', z1, z2, z3, z4⟩ := loop34o hG hg (x3 := x3) (o3 := o3) (prot := prot) d (v + 1) _ r1 o1 H1 (by omega) y2 y3 y4
    refine ⟨r2, o2, H', ?_, z2, z3, z4⟩
    obtain ⟨_, _, rfl⟩ := hg.len
    obtain ⟨_, _, rfl⟩ := hO.x3.len
    exact lp_next (f34_L0_0 (by omega) y1 (fit64 (by omega) (by omega))) z1
theorem c34 {G : List (List Int)} (hG : Good G) (hE : lens G ≤ 1048576) {vG : Value} (prot : Nat) {H : AHeap} (hg : Gr H vG G) : ∃ x' H', callInf cfg 34 [vG] prot H = some (x', H') ∧ Mine H.length H' x' G.length (turnT G) ∧ Stay none H H' := by
  have h5 := hG.1
  obtain ⟨HA, hHA⟩ : ∃ HA, HA = H ++ [AObj.cells (repCells [.slice none 0 0] G.length) 34 (repCells [.slice none 0 0] G.length).length .row] := ⟨_, rfl⟩
  have sA : Stay none H HA := by rw [hHA]; exact Stay.app none H _
  have key : ∃ x1 H1, lpInf (lpOf cfg a34 0 prot H) ([vG, .slice (some ⟨H.length, 0, some (G.length * 1)⟩) G.length G.length, .int .i64 0], HA) = some (.exit 0, [x1], H1) ∧ Mine H.length H1 x1 G.length (turnT G) ∧ Stay none H H1 := by
    by_cases h0 : 0 < G.length
    · have hO := out_start h0 H
      rw [← hHA] at hO
      obtain ⟨r', o', H1, z1, z2, z3, z4⟩ := loop34o hG hg (prot := prot) G.length 0 _ _ _ HA (by omega) hO sA (fun j => by simpa [lens] using hE)
      exact ⟨_, H1, z1, ⟨.inl ⟨r', o', _, z2⟩⟩, z3⟩
    · have hn : G = [] := List.eq_nil_of_length_eq_zero (by omega)
      subst hn
      obtain ⟨_, _, rfl⟩ := hg.len
      refine ⟨_, HA, lp_last (f34_L0_1 (by decide)), ⟨.inr ⟨rfl, H.length, rfl, Nat.le_refl _, ?_⟩⟩, sA⟩
      rw [hHA]
      exact append_get.1
  obtain ⟨x1, H2, y1, y3, y4⟩ := key
  obtain ⟨x', H', g1, g2, g3⟩ := gc_mine y3 y4 (ps := []) rfl
  refine ⟨x', H', ?_, g2, g3⟩
  obtain ⟨_, hx1, _⟩ := y3.rd
  obtain ⟨_, _, hxe⟩ := hx1.len
  obtain ⟨_, _, rfl⟩ := hg.len
  subst hxe
  subst hHA
  exact f34_F_0 _ _ (by omega) rfl (by omega) (by omega) y1 (by rw [pfin_eq, if_neg (by simp [a34])]; exact g1)
theorem c10 {G : List (List Int)} (hs : Short G) (hE : lens G ≤ 1048576) {vG : Value} (prot : Nat) {H : AHeap} (hg : Gr H vG G) :
    (chk G ≠ 0 ∧ callInf cfg 10 [vG] prot H = some (.tuple #[.slice none 0 0, .int .i64 (chk G)], H)) ∨
    (chk G = 0 ∧ ∃ x' H', callInf cfg 10 [vG] prot H = some (.tuple #[x', .int .i64 0], H') ∧ Mine H.length H' x' G.length (turnT G) ∧ Stay none H H') := by
  have h25 := c25 hs H.length hg
  by_cases h : chk G = 0
  · refine .inr ⟨h, ?_⟩
    have hG := good_of hs h
    obtain ⟨y, H1, w1, w2, w3⟩ := c33 hG hE H.length hg
    obtain ⟨x', H', g1, g2, g3⟩ := gc_mine (H := H) w2 w3 (ps := [.int .i64 0]) rfl
    refine ⟨x', H', ?_, g2, g3⟩
    obtain ⟨_, hx1, _⟩ := w2.rd
    obtain ⟨_, _, rfl⟩ := hx1.len
    obtain ⟨aG, cG, rfl⟩ := hg.len
    exact f10_F_1 _ _ h25 (by simp [h]) w1 (by rw [pfin_eq, if_neg (by simp [a10])]; exact g1)
  · refine .inl ⟨h, ?_⟩
    obtain ⟨aG, cG, rfl⟩ := hg.len
    exact f10_F_0 h25 (by simpa using h)
theorem c11 {G : List (List Int)} (hs : Short G) (hE : lens G ≤ 1048576) {vG : Value} (prot : Nat) {H : AHeap} (hg : Gr H vG G) :
    (chk G ≠ 0 ∧ callInf cfg 11 [vG] prot H = some (.tuple #[.slice none 0 0, .int .i64 (chk G)], H)) ∨
    (chk G = 0 ∧ ∃ x' H', callInf cfg 11 [vG] prot H = some (.tuple #[x', .int .i64 0], H') ∧ Mine H.length H' x' G.length (turnT G) ∧ Stay none H H') := by
  have h26 := c26 hs H.length hg
  by_cases h : chk G = 0
  · refine .inr ⟨h, ?_⟩
    have hG := good_of hs h
    obtain ⟨y, H1, w1, w2, w3⟩ := c34 hG hE H.length hg
    obtain ⟨x', H', g1, g2, g3⟩ := gc_mine (H := H) w2 w3 (ps := [.int .i64 0]) rfl
    refine ⟨x', H', ?_, g2, g3⟩
    obtain ⟨_, hx1, _⟩ := w2.rd
    obtain ⟨_, _, rfl⟩ := hx1.len
    obtain ⟨aG, cG, rfl⟩ := hg.len
    exact f11_F_1 _ _ h26 (by simp [h]) w1 (by rw [pfin_eq, if_neg (by simp [a11])]; exact g1)
  · refine .inl ⟨h, ?_⟩
    obtain ⟨aG, cG, rfl⟩ := hg.len
    exact f11_F_0 h26 (by simpa using h)
/-- Are lists of lists the same? -/
theorem loop12 {N : Nat} {T : Nat → List Nat} (hN : N ≤ 512) (hb : ∀ j, j < N → (T j).length ≤ 140737488355328) {x y : Value} {H0 H : AHeap} {prot : Nat} {B C : Nat} (hx : Mine B H x N T) (hy : Mine C H y N T) : ∀ (d i : Nat), i + d = N →
    lpInf (lpOf cfg a12 0 prot H0) ([x, y, .int .i64 i], H) = some (.exit 0, [.tuple #[]], H)
  | 0, i, hi => by
    obtain ⟨cs, c1, c2⟩ := hx.rd
    obtain ⟨ds, d1, d2⟩ := hy.rd
    obtain ⟨_, _, rfl⟩ := c1.len
    obtain ⟨_, _, rfl⟩ := d1.len
    exact lp_last (f12_L0_2 (by omega))
  | d + 1, i, hi => by
    have hil : i < N := by omega
    have ih := loop12 hN hb hx hy (H0 := H0) (prot := prot) d (i + 1) (by omega)
    obtain ⟨cs, c1, c2⟩ := hx.rd
    obtain ⟨ds, d1, d2⟩ := hy.rd
    obtain ⟨r, r1, r2⟩ := c2 i hil
    obtain ⟨s, s1, s2⟩ := d2 i hil
    obtain ⟨i1, L1, p1, q1⟩ := rd_at T22 c1 r1
    obtain ⟨i2, L2, p2, q2⟩ := rd_at T22 d1 s1
    have h27 := c27 (l := nl (T i)) (m := nl (T i)) (by simpa [nl] using hb i hil) H0.length (by simpa [nl] using r2) (by simpa [nl] using s2)
    rw [decide_eq_true rfl] at h27
    obtain ⟨_, _, rfl⟩ := c1.len
    obtain ⟨_, _, rfl⟩ := d1.len
    obtain ⟨_, _, rfl⟩ := r2.len
    obtain ⟨_, _, rfl⟩ := s2.len
    exact lp_next (f12_L0_0 (by omega) p1 q1 p2 q2 h27 rfl (fit64 (by omega) (by omega))) ih
theorem c12 {N : Nat} {T : Nat → List Nat} (hN : N ≤ 512) (hb : ∀ j, j < N → (T j).length ≤ 140737488355328) {x y : Value} (prot : Nat) {H : AHeap} {B C : Nat} (hx : Mine B H x N T) (hy : Mine C H y N T) : callInf cfg 12 [x, y] prot H = some (.bool true, H) := by
  have hl := loop12 hN hb hx hy (H0 := H) (prot := prot) N 0 (by omega)
  obtain ⟨cs, c1, c2⟩ := hx.rd
  obtain ⟨ds, d1, d2⟩ := hy.rd
  obtain ⟨_, _, rfl⟩ := c1.len
  obtain ⟨_, _, rfl⟩ := d1.len
  exact f12_F_1 (by simp) hl
/-- No list is longer than there are edges. -/
theorem goRow_len {v : Nat} : ∀ (l : List Nat) (T : Nat → List Nat) (j : Nat), (goRow v l T j).length ≤ (T j).length + l.length
  | [], T, j => by simp [goRow]
  | u :: l, T, j => by
    have h1 := goRow_len (v := v) l (addE T u v) j
    have h2 := addE_len (T := T) (u := u) (v := v) (j := j)
    rw [goRow, List.length_cons]
    omega
theorem goAll_len {G : List (List Int)} : ∀ (d v : Nat) (T : Nat → List Nat) (j : Nat), v + d = G.length → (goAll G d v T j).length ≤ (T j).length + lens (G.drop v)
  | 0, v, T, j, _ => by simp [goAll]
  | d + 1, v, T, j, hv => by
    have hvl : v < G.length := by omega
    have h1 := goAll_len (G := G) d (v + 1) (goRow v (sc G v) T) j (by omega)
    have h2 := goRow_len (v := v) (sc G v) T j
    have h3 := sc_len hvl
    have hsplit : lens (G.drop v) = G[v].length + lens (G.drop (v + 1)) := by
      unfold lens
      rw [List.drop_eq_getElem_cons hvl, List.map_cons, List.sum_cons]
    rw [goAll]
    omega
theorem turn_len {G : List (List Int)} (j : Nat) : (turnT G j).length ≤ lens G := by
  have := goAll_len (G := G) G.length 0 (fun _ => []) j (by omega)
  simpa [turnT] using this
end Go.Proofs.Ytkemihfaohkoeaa.Am11
set_option linter.unusedVariables false
open Go Go.Proofs.Ytkemihfaohkoeaa.Am
namespace Go.Proofs.Ytkemihfaohkoeaa.Am11
end Go.Proofs.Ytkemihfaohkoeaa.Am11
namespace Go.Proofs.Ytkemihfaohkoeaa.Am11
open Go Go.Proofs.Ytkemihfaohkoeaa.Am
/-- Lists leave room for two more. -/
def Short8 (G : List (List Int)) : Prop := G.length * 24 + 48 ≤ 140737488355328 ∧ ∀ l ∈ G, l.length * 8 + 16 ≤ 140737488355328
theorem Short8.short {G : List (List Int)} (h : Short8 G) : Short G := fun l hl => by have := h.2 l hl; omega
def wrapI (n : Nat) (x : Int) : Int := (x.tmod n + n).tmod n
/-- A graph out of any lists. -/
def wit (G : List (List Int)) : List (List Int) := (G.take 512).map fun l => l.map (wrapI (min 512 G.length))
end Go.Proofs.Ytkemihfaohkoeaa.Am11
set_option linter.unusedVariables false
open Go Go.Proofs.Ytkemihfaohkoeaa.Am
namespace Go.Proofs.Ytkemihfaohkoeaa.Am11
theorem f9_F_0 {x0a : Option Addr} {x0n x0c : Nat} {H : AHeap} {prot : Nat} {z3a : Option Addr} {z3n z3c : Nat} {H1 : AHeap} (rv : Value) (rH : AHeap) (h1 : lpInf (lpOf cfg a9 0 prot H) ([Value.slice x0a x0n x0c, Value.slice none 0 0, Value.int .i64 0], H) = some (Ex.exit 0, [Value.slice z3a z3n z3c], H1)) (h2 : pfin a9 H [Value.slice z3a z3n z3c] H1 = (rv, rH)) : callInf cfg 9 [.slice x0a x0n x0c] prot H = some (rv, rH) :=
  fn_of2 a9 [.lo (.exit 0, [.slice z3a z3n z3c], H1)] (ai h1 h2) (by kernel_rfl) rfl
theorem f9_L0_0 {x0a : Option Addr} {x0n x0c : Nat} {x3a : Option Addr} {x3n x3c : Nat} {x4 : Int} {H0 : AHeap} {prot : Nat} {H : AHeap} {x14p x14o x14l : Nat} {x15a : Option Addr} {x15n x15c : Nat} {x16a : Option Addr} {x16n x16c : Nat} {H2 : AHeap} {x18a : Option Addr} {x18n x18c : Nat} {H3 : AHeap} (h1 : x4 < (↑x0n : Int)) (h2 : aindexAddr cfg.P 22 (Value.slice x0a x0n x0c) (Value.int .i64 x4) = some (Value.pointer (some ⟨x14p, x14o, some x14l⟩))) (h3 : getCells H x14p x14l x14o 1 = some [Value.slice x15a x15n x15c]) (h4 : callInf cfg 32 [Value.slice x15a x15n x15c] (List.length H0) H = some (Value.slice x16a x16n x16c, H2)) (h5 : aappend cfg.P (List.length H0) true 22 22 (Value.slice x3a x3n x3c) (Value.slice (some ⟨List.length H2, 0, some (1 * 1)⟩) 1 1) (H2 ++ [wo [Value.slice x16a x16n x16c] 34]) = some (Value.slice x18a x18n x18c, H3)) (h6 : Fit .i64 (x4 + 1)) : lpOf cfg a9 0 prot H0 ([.slice x0a x0n x0c, .slice x3a x3n x3c, .int .i64 x4], H) = some (Sum.inl ([Value.slice x0a x0n x0c, Value.slice x18a x18n x18c, Value.int .i64 (x4 + 1)], H3)) :=
  lp_of2 [.e, .e, .b true, .v (.pointer (some ⟨x14p, x14o, some x14l⟩)), .v (.slice x15a x15n x15c), .r (.slice x16a x16n x16c) H2, .e, .r (.slice x18a x18n x18c) H3, .e] (ai (decide_eq_true h1) (ai h2 (ai h3 (ai h4 (ai h5 (ai h6 (Eq.refl (Sum.inl ([Value.slice x0a x0n x0c, Value.slice x18a x18n x18c, Value.int .i64 (x4 + 1)], H3) : LS ⊕ LO)))))))) (by kernel_rfl)
theorem f9_L0_1 {x0a : Option Addr} {x0n x0c : Nat} {x3a : Option Addr} {x3n x3c : Nat} {x4 : Int} {H0 : AHeap} {prot : Nat} {H : AHeap} (h1 : ¬(x4 < (↑x0n : Int))) : lpOf cfg a9 0 prot H0 ([.slice x0a x0n x0c, .slice x3a x3n x3c, .int .i64 x4], H) = some (Sum.inr (Ex.exit 0, [Value.slice x3a x3n x3c], H)) :=
  lp_of2 [.e, .e, .b false] (ai (decide_eq_false h1) (Eq.refl (Sum.inr (Ex.exit 0, [Value.slice x3a x3n x3c], H) : LS ⊕ LO))) (by kernel_rfl)
end Go.Proofs.Ytkemihfaohkoeaa.Am11
set_option linter.unusedVariables false
open Go Go.Proofs.Ytkemihfaohkoeaa.Am
namespace Go.Proofs.Ytkemihfaohkoeaa.Am11
theorem f14_F_0 {x0a : Option Addr} {x0n x0c : Nat} {x1a : Option Addr} {x1n x1c : Nat} {H : AHeap} {prot : Nat} {z0a : Option Addr} {z0n z0c : Nat} {z1a : Option Addr} {z1n z1c : Nat} {z4 : Value} {H1 : AHeap} (h1 : lpInf (lpOf cfg a14 0 prot H) ([Value.slice x0a x0n x0c, Value.slice x1a x1n x1c, Value.int .i64 0], H) = some (Ex.exit 0, [Value.slice z0a z0n z0c, Value.slice z1a z1n z1c, z4], H1)) : callInf cfg 14 [.slice x0a x0n x0c, .slice x1a x1n x1c] prot H = some (Value.bool ((↑z0n : Int) == (↑z1n : Int)), H) :=
  fn_of2 a14 [.lo (.exit 0, [.slice z0a z0n z0c, .slice z1a z1n z1c, z4], H1), .e, .e, .e] (ai h1 (Eq.refl ((Value.bool ((↑z0n : Int) == (↑z1n : Int)), H) : Value × AHeap))) (by kernel_rfl) rfl
theorem f14_L0_0 {x0a : Option Addr} {x0n x0c : Nat} {x1a : Option Addr} {x1n x1c : Nat} {x5 : Int} {H0 : AHeap} {prot : Nat} {H : AHeap} {x14p x14o x14l : Nat} {x15a : Option Addr} {x15n x15c x18p x18o x18l : Nat} {x19a : Option Addr} {x19n x19c : Nat} {x20 : Bool} (h1 : x5 < (↑x1n : Int)) (h2 : aindexAddr cfg.P 22 (Value.slice x0a x0n x0c) (Value.int .i64 x5) = some (Value.pointer (some ⟨x14p, x14o, some x14l⟩))) (h3 : getCells H x14p x14l x14o 1 = some [Value.slice x15a x15n x15c]) (h4 : aindexAddr cfg.P 22 (Value.slice x1a x1n x1c) (Value.int .i64 x5) = some (Value.pointer (some ⟨x18p, x18o, some x18l⟩))) (h5 : getCells H x18p x18l x18o 1 = some [Value.slice x19a x19n x19c]) (h6 : callInf cfg 35 [Value.slice x15a x15n x15c, Value.slice x19a x19n x19c] (List.length H0) H = some (Value.bool x20, H)) (h7 : (!x20) = false) (h8 : Fit .i64 (x5 + 1)) : lpOf cfg a14 0 prot H0 ([.slice x0a x0n x0c, .slice x1a x1n x1c, .int .i64 x5], H) = some (Sum.inl ([Value.slice x0a x0n x0c, Value.slice x1a x1n x1c, Value.int .i64 (x5 + 1)], H)) :=
  lp_of2 [.e, .e, .b true, .v (.pointer (some ⟨x14p, x14o, some x14l⟩)), .v (.slice x15a x15n x15c), .v (.pointer (some ⟨x18p, x18o, some x18l⟩)), .v (.slice x19a x19n x19c), .v (.bool x20), .e, .b false, .e] (ai (decide_eq_true h1) (ai h2 (ai h3 (ai h4 (ai h5 (ai h6 (ai h7 (ai h8 (Eq.refl (Sum.inl ([Value.slice x0a x0n x0c, Value.slice x1a x1n x1c, Value.int .i64 (x5 + 1)], H) : LS ⊕ LO)))))))))) (by kernel_rfl)
theorem f14_L0_2 {x0a : Option Addr} {x0n x0c : Nat} {x1a : Option Addr} {x1n x1c : Nat} {x5 : Int} {H0 : AHeap} {prot : Nat} {H : AHeap} (h1 : ¬(x5 < (↑x1n : Int))) : lpOf cfg a14 0 prot H0 ([.slice x0a x0n x0c, .slice x1a x1n x1c, .int .i64 x5], H) = some (Sum.inr (Ex.exit 0, [Value.slice x0a x0n x0c, Value.slice x1a x1n x1c, Value.tuple { toList := [] }], H)) :=
  lp_of2 [.e, .e, .b false] (ai (decide_eq_false h1) (Eq.refl (Sum.inr (Ex.exit 0, [Value.slice x0a x0n x0c, Value.slice x1a x1n x1c, Value.tuple { toList := [] }], H) : LS ⊕ LO))) (by kernel_rfl)
end Go.Proofs.Ytkemihfaohkoeaa.Am11
namespace Go.Proofs.Ytkemihfaohkoeaa.Am11
open Go Go.Proofs.Ytkemihfaohkoeaa.Am
/-- A graph that was lent. -/
structure LG (H : AHeap) (x : Value) (G : List (List Int)) : Prop where
  ex : ∃ cs, Rd H 34 1 x G.length cs ∧ ∀ (i : Nat) (l : List Int), G[i]? = some l → ∃ r id, cs[i]? = some r ∧ LR H r l id
theorem LG.gr {H : AHeap} {x : Value} {G : List (List Int)} (h : LG H x G) : Gr H x G := by
  obtain ⟨cs, h1, h2⟩ := h.ex
  exact ⟨cs, h1, fun i l hl => by obtain ⟨r, id, a, b⟩ := h2 i l hl; exact ⟨r, a, b.rd⟩⟩
theorem LG.stay {H H' : AHeap} {x : Value} {G : List (List Int)} (h : LG H x G) (s : Stay none H H') : LG H' x G := by
  obtain ⟨cs, h1, h2⟩ := h.ex
  exact ⟨cs, h1.stay s, fun i l hl => by obtain ⟨r, id, a, b⟩ := h2 i l hl; exact ⟨r, id, a, b.stay s (by simp)⟩⟩
theorem LR.lt {H : AHeap} {r : Value} {l : List Int} {id : Nat} (h : LR H r l id) : id < H.length := by
  obtain ⟨_, _, _, h2⟩ := h.g
  exact (List.getElem?_eq_some_iff.1 h2).1
theorem loop9 {G : List (List Int)} {H0 : AHeap} {x0 : Value} (hg : Gr H0 x0 G) (hs : Short8 G) {prot : Nat} : ∀ (d v : Nat) (x4 : Value) (o4 : Option Nat) (cs : List Value) (H : AHeap), v + d = G.length → Stay none H0 H → Own H 34 1 x4 o4 v cs → (∀ id, o4 = some id → H0.length ≤ id) →
    (∀ (j : Nat) (l : List Int), j < v → G[j]? = some l → ∃ r id, cs[j]? = some r ∧ LR H r l id ∧ o4 ≠ some id) →
    ∃ x' o' cs' H', lpInf (lpOf cfg a9 0 prot H0) ([x0, x4, .int .i64 v], H) = some (.exit 0, [x'], H') ∧ Stay none H0 H' ∧ Own H' 34 1 x' o' G.length cs' ∧ (∀ id, o' = some id → H0.length ≤ id) ∧
      (∀ (j : Nat) (l : List Int), j < G.length → G[j]? = some l → ∃ r id, cs'[j]? = some r ∧ LR H' r l id)
  | 0, v, x4, o4, cs, H, hv, hst, hx, ho, hr => by
    have he : v = G.length := by omega
    subst he
    refine ⟨x4, o4, cs, H, ?_, hst, hx, ho, fun j l hj hl => by obtain ⟨r, id, a, b, _⟩ := hr j l hj hl; exact ⟨r, id, a, b⟩⟩
    obtain ⟨_, _, rfl⟩ := hg.len
    obtain ⟨_, _, rfl⟩ := hx.len
    exact lp_last (f9_L0_1 (by omega))
  | d + 1, v, x4, o4, cs, H, hv, hst, hx, ho, hr => by
    have hvG : v < G.length := by omega
    have hlv := hs.2 _ (List.getElem_mem hvG)
    have hl1 := hst.1
    obtain ⟨id0, L0, r0, a1, a2, a3⟩ := (hg.stay hst).row hvG
    obtain ⟨x6, H2, u1, u2, u4, u5⟩ := c32 hlv H0.length H a3
    have hx2 := hx.stay u4 (fun _ _ h => by cases h)
    have l2 := u4.1
    have h6 := u2.e
    have hcell : [x6].all isCell = true := by rw [h6]; rfl
    have hsl := hs.1
    obtain ⟨a', c', o', H3, s1, s2, s3, s4, s5, s6⟩ := own_app T22 hx2 (ecs := [x6]) rfl hcell (prot := H0.length) (room := true) ho (by omega) (by omega) (L := 1 * 1) rfl (el := [x6].length) rfl
    have hol : ∀ id, o4 = some id → id < H.length := fun id h => by
      rw [h] at hx
      exact (List.getElem?_eq_some_iff.1 hx.2.2.2.choose_spec.2).1
    have hcl : cs.length = v := by have := hx.1; omega
    obtain ⟨x', o2, cs', H', z1, z2, z3, z4, z5⟩ := loop9 hg hs (prot := prot) d (v + 1) _ (some o') (cs ++ [x6]) H3 (by omega) ((hst.trans u4).over s3 ho) s2 (fun id h => by cases h; exact s4) (fun j l hj hl => by
      by_cases he : j = v
      · subst he
        rw [List.getElem?_eq_getElem hvG] at hl
        cases hl
        refine ⟨x6, H.length, by rw [List.getElem?_append_right (by omega), hcl, Nat.sub_self]; rfl, u2.stay s3 (fun h => by have := hol _ h; omega), fun h => ?_⟩
        have h := Option.some.inj h
        cases hh : o4 with
        | none => have := s5 hh; omega
        | some k => have := s6 k hh; have := hol k hh; omega
      · obtain ⟨r, id, r1, r2, r3⟩ := hr j l (by omega) hl
        have hlow := r2.lt
        refine ⟨r, id, by rw [List.getElem?_append_left (by omega)]; exact r1, (r2.stay u4 (by simp)).stay s3 r3, fun h => ?_⟩
        have h := Option.some.inj h
        cases hh : o4 with
        | none => have := s5 hh; omega
        | some k => have := s6 k hh; exact r3 (by rw [hh, ← this, h]))
    refine ⟨x', o2, cs', H', ?_, z2, z3, z4, z5⟩
    obtain ⟨_, _, rfl⟩ := hg.len
    obtain ⟨_, _, rfl⟩ := hx.len
    obtain ⟨_, _, rfl⟩ := a3.len
    subst h6
    exact lp_next (f9_L0_0 (by omega) a1 a2 u1 s1 (fit64 (by omega) (by omega))) z1

theorem c9 {G : List (List Int)} (hs : Short8 G) {x0 : Value} (prot : Nat) {H : AHeap} (hg : Gr H x0 G) : ∃ x' H', callInf cfg 9 [x0] prot H = some (x', H') ∧ LG H' x' G ∧ Stay none H H' := by
  obtain ⟨x', o', cs', H', z1, z2, z3, z4, z5⟩ := loop9 hg hs (prot := prot) G.length 0 (.slice none 0 0) none [] H (by omega) (Stay.refl _ _) own_nil (fun id h => by cases h) (fun j l hj => by omega)
  obtain ⟨aG, cG, rfl⟩ := hg.len
  have hz3 := z3
  obtain ⟨ax, cx, hxe⟩ := z3.len
  cases ho : o' with
  | none =>
    rw [ho] at hz3
    have h0 : G.length = 0 := hz3.2.1
    have hG0 : G = [] := List.eq_nil_of_length_eq_zero (by omega)
    have hpf : pfin a9 H [x'] H' = (x', H) := by
      rw [pfin_eq, if_neg (by simp [a9])]
      rcases hz3.2.2 with hx | hx
      · rw [hx]; exact gc_plain rfl
      · rw [hx]; rfl
    refine ⟨x', H, ?_, ⟨[], ?_, fun i l hl => ?_⟩, Stay.refl _ _⟩
    · rw [hxe] at z1 hpf ⊢; exact f9_F_0 _ _ z1 hpf
    · subst hG0; exact ⟨rfl, .inl ⟨rfl, hz3.2.2⟩⟩
    · subst hG0; simp at hl
  | some id =>
    rw [ho] at hz3
    have hpos : 0 < G.length := hz3.2.1
    have hnp : cs'.all plain0 = false := by
      obtain ⟨r, id2, a, b⟩ := z5 0 _ (by omega) (List.getElem?_eq_getElem hpos)
      rw [Bool.eq_false_iff]
      intro h
      have := List.all_eq_true.1 h r (List.mem_of_getElem? a)
      rw [b.e] at this
      cases this
    have hpf : pfin a9 H [x'] H' = (x', H') := by
      rw [pfin_eq, if_neg (by simp [a9])]; exact gc_not hz3 hnp
    refine ⟨x', H', ?_, ⟨cs', z3.rd, fun i l hl => ?_⟩, z2⟩
    · rw [hxe] at z1 hpf ⊢; exact f9_F_0 _ _ z1 hpf
    · exact z5 i l (List.getElem?_eq_some_iff.1 hl).1 hl

theorem loop14 {G : List (List Int)} (hs : Short8 G) {x y : Value} {H0 H : AHeap} {prot : Nat} (hx : LG H x G) (hy : Gr H y G) : ∀ (d i : Nat), i + d = G.length →
    lpInf (lpOf cfg a14 0 prot H0) ([x, y, .int .i64 i], H) = some (.exit 0, [x, y, .tuple #[]], H)
  | 0, i, hi => by
    obtain ⟨_, _, rfl⟩ := hx.gr.len
    obtain ⟨_, _, rfl⟩ := hy.len
    exact lp_last (f14_L0_2 (by omega))
  | d + 1, i, hi => by
    have hil : i < G.length := by omega
    have hgl := hs.1
    obtain ⟨id2, L2, r2, p2, q2, k2⟩ := hy.row hil
    obtain ⟨cs, h1, h2⟩ := hx.ex
    obtain ⟨r, id, a, b⟩ := h2 i _ (List.getElem?_eq_getElem hil)
    obtain ⟨id1, L1, p1, q1⟩ := rd_at T22 h1 a
    have h35 := c35 (hs.2 _ (List.getElem_mem hil)) H0.length b k2
    have ih := loop14 hs hx hy (H0 := H0) (prot := prot) d (i + 1) (by omega)
    have he := b.e
    obtain ⟨_, _, rfl⟩ := hx.gr.len
    obtain ⟨_, _, rfl⟩ := hy.len
    obtain ⟨_, _, rfl⟩ := k2.len
    subst he
    exact lp_next (f14_L0_0 (by omega) p1 q1 p2 q2 h35 rfl (fit64 (by omega) (by omega))) ih
theorem c14 {G : List (List Int)} (hs : Short8 G) {x y : Value} (prot : Nat) {H : AHeap} (hx : LG H x G) (hy : Gr H y G) :
    callInf cfg 14 [x, y] prot H = some (.bool true, H) := by
  have h := loop14 hs hx hy (H0 := H) (prot := prot) G.length 0 (by omega)
  obtain ⟨_, _, rfl⟩ := hx.gr.len
  obtain ⟨_, _, rfl⟩ := hy.len
  have := f14_F_0 h
  simpa using this
end Go.Proofs.Ytkemihfaohkoeaa.Am11
namespace Go.Proofs.Ytkemihfaohkoeaa.Am11
open Go Go.Proofs.Ytkemihfaohkoeaa.Am
def mk (n : Nat → Nat) (j : Nat) : List Value := il (List.replicate (n j) (1000 + (j : Int)))
def gw (k j : Nat) : List Value := il (List.replicate k (2000 + (j : Int)))
structure Gro (B : Nat) (H : AHeap) (x0 : Value) (N : Nat) (r : Nat → Value) (n : Nat → Nat) (o : Nat → Option Nat) (i m : Nat) (x3 : Value) (o3 : Option Nat) (g : Nat → Value) (og : Nat → Option Nat) : Prop where
  rd : ∃ cs, Rd H 34 1 x0 N cs ∧ ∀ j, j < N → cs[j]? = some (r j)
  low : Low B x0
  rx : ∀ j, m ≤ j → j < N → RX H 3 (r j) (n j) (o j) (mk n j)
  gk : ∀ j, j < i → GK H 3 (r j) (g j) (n j) 40 (o j) (og j) (mk n j) (gw 40 j)
  x3 : Own H 34 1 x3 o3 i ((List.range i).map g)
  o3 : ∀ id, o3 = some id → B ≤ id
  lt : ∀ j, j < N → ∀ a, o j = some a → a < B
  le : B ≤ H.length
  dis : ∀ j, j < i → ∀ a, og j = some a → o j = some a ∨ B ≤ a
theorem stay_rx {H H' : AHeap} {x3 : Value} {o3 : Option Nat} {i : Nat} {cs : List Value} (h3 : Own H 34 1 x3 o3 i cs) (s : Stay o3 H H') {r : Value} {n : Nat} {o : Option Nat} {vs : List Value} (h : RX H 3 r n o vs) : RX H' 3 r n o vs := by
  cases o3 with
  | none => exact h.stay s (fun id _ e => by cases e)
  | some id =>
    obtain ⟨_, _, _, wr, _, hH⟩ := h3
    exact h.stayE hH (by decide) s
theorem stay_gk {H H' : AHeap} {x3 : Value} {o3 : Option Nat} {i : Nat} {cs : List Value} (h3 : Own H 34 1 x3 o3 i cs) (s : Stay o3 H H') {r g : Value} {n k : Nat} {o o' : Option Nat} {vs ws : List Value} (h : GK H 3 r g n k o o' vs ws) : GK H' 3 r g n k o o' vs ws := by
  cases o3 with
  | none => exact h.stay s (fun id _ e => by cases e)
  | some id =>
    obtain ⟨_, _, _, wr, _, hH⟩ := h3
    exact h.stayE hH (by decide) s
theorem loop15d {B : Nat} {x0 x3 : Value} {N : Nat} {r : Nat → Value} {n : Nat → Nat} {o : Nat → Option Nat} (hD : Dis N o) {prot : Nat} (hp : ∀ j, j < N → ∀ a, o j = some a → prot ≤ a) (hpB : prot ≤ B) (hN : N ≤ 1000000) {H0 : AHeap} {i : Nat} (hi : i < N) (hn : n i ≤ 1000000000) {o3 : Option Nat} {g : Nat → Value} {og : Nat → Option Nat} : ∀ (d k : Nat) (x7 : Value) (o' : Option Nat) (H : AHeap), k + d = 40 → Gro B H x0 N r n o i (i + 1) x3 o3 g og → GK H 3 (r i) x7 (n i) k (o i) o' (mk n i) (gw k i) → (∀ a, o' = some a → o i = some a ∨ B ≤ a) → (∀ j, j < i → ∀ a, og j = some a → o' ≠ some a) →
    ∃ y o2 H', lpInf (lpOf cfg a15 3 prot H0) ([x0, x3, .int .i64 i, x7, .int .i64 k], H) = some (.exit 6, [x0, x3, .int .i64 i, y], H') ∧ Gro B H' x0 N r n o i (i + 1) x3 o3 g og ∧ GK H' 3 (r i) y (n i) 40 (o i) o2 (mk n i) (gw 40 i) ∧ (∀ a, o2 = some a → o i = some a ∨ B ≤ a) ∧ (∀ j, j < i → ∀ a, og j = some a → o2 ≠ some a)
  | 0, k, x7, o', H, hk, hG, hK, h1, h2 => by
    have he : k = 40 := by omega
    subst he
    refine ⟨x7, o', H, ?_, hG, hK, h1, h2⟩
    obtain ⟨_, _, rfl⟩ := rows_len hG.rd
    obtain ⟨_, _, rfl⟩ := hG.x3.len
    obtain ⟨_, _, rfl⟩ := hK.glen
    exact lp_last (f15_L3_1 (by omega))
  | d + 1, k, x7, o', H, hk, hG, hK, h1, h2 => by
    have hle := hG.le
    obtain ⟨id, H2, q1, q2, q3, q4, q5⟩ := hK.app T34 (v := .int .i64 (2000 + (i : Int))) rfl (prot := prot) (fun a ha => by
      rcases h1 a ha with h | h
      · exact hp i hi a h
      · omega) (by omega) (by omega) (L := 1 * 1) rfl (el := 1) rfl
    have hgw : gw k i ++ [.int .i64 (2000 + (i : Int))] = gw (k + 1) i := by
      unfold gw il
      rw [List.replicate_succ', List.map_append]
      rfl
    rw [hgw] at q2
    have hl2 := q3.1
    -- whose object is it?
    have hid : o i = some id ∨ B ≤ id := by
      cases ho' : o' with
      | none => have := q5 ho'; exact .inr (by omega)
      | some a => have e := q4 a ho'; rw [e]; exact h1 a ho'
    have hnew : ∀ j, j < i → ∀ a, og j = some a → id ≠ a := fun j hj a ha e => by
      cases ho' : o' with
      | none =>
        have := q5 ho'
        have h3 := hG.gk j hj
        rw [ha] at h3
        have := h3.lt
        omega
      | some b => have e2 := q4 b ho'; exact h2 j hj a ha (by rw [ho']; rw [← e, e2])
    have h3o : ∀ b, o3 = some b → o' ≠ some b := fun b hb e => by
      rcases hK.gl with ⟨h, _⟩ | ⟨id2, wr, a, _, _, d2, _⟩
      · rw [h] at e; cases e
      · have h0 := hG.x3
        rw [hb] at h0
        obtain ⟨_, _, _, wr2, _, h4⟩ := h0
        rw [a] at e
        have := Option.some.inj e
        subst this
        rw [d2] at h4
        simp only [Option.some.injEq, AObj.cells.injEq] at h4
        exact absurd h4.2.1 (by decide)
    have hG2 : Gro B H2 x0 N r n o i (i + 1) x3 o3 g og := by
      refine ⟨?_, hG.low, fun j hj hjN => ?_, fun j hj => ?_, hG.x3.stay q3 h3o, hG.o3, hG.lt, by omega, hG.dis⟩
      · obtain ⟨cs, c1, c2⟩ := hG.rd
        refine ⟨cs, ?_, c2⟩
        rcases hK.gl with ⟨h, _⟩ | ⟨id2, wr, a, _, _, d2, _⟩
        · rw [h] at q3; exact c1.stay q3
        · rw [a] at q3; exact c1.stayE d2 (by decide) q3
      · refine (hG.rx j hj hjN).stay q3 (fun b hb e2 => ?_)
        rcases h1 b e2 with h | h
        · exact hD j i hjN hi (by omega) b hb h
        · have := hG.lt j hjN b hb; omega
      · exact (hG.gk j hj).stay q3 (fun b hb e2 => h2 j hj b hb e2)
    obtain ⟨y, o2, H', z1, z2⟩ := loop15d hD hp hpB hN (H0 := H0) hi hn d (k + 1) _ (some id) H2 (by omega) hG2 q2 (fun a ha => by cases ha; exact hid) (fun j hj a ha e => hnew j hj a ha (Option.some.inj e))
    refine ⟨y, o2, H', ?_, z2⟩
    obtain ⟨_, _, rfl⟩ := rows_len hG.rd
    obtain ⟨_, _, rfl⟩ := hG.x3.len
    obtain ⟨_, _, rfl⟩ := hK.glen
    exact lp_next (f15_L3_0 (by omega) (fit64 (by omega) (by omega)) q1 (fit64 (by omega) (by omega))) z1
end Go.Proofs.Ytkemihfaohkoeaa.Am11
