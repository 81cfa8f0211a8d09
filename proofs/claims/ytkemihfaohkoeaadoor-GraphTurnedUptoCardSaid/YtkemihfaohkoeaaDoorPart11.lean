/- A part of the proof of a given statement: AmArg, AmAuto, AmAutoS. No condition. -/
import Derived.Test.YtkemihfaohkoeaaDoorPart10
import Derived.Lib.SmallJoins
import Derived.Deep.Grids
import Derived.ChangeSlices
namespace Go.Proofs.YtkemihfaohkoeaaDoor.Am
open Go Go.RowKit Go.ChangeShapes Go.WideShapes

/-- A row of memory that is only read. -/
theorem Sim.ro {P : Program} {w0 w : World} {μ : PMap} {H : AHeap} (h : Sim P w0 μ H w) (hnw : ∀ (id : Nat) (o : AObj), H[id]? = some o → writable o = false) {vs : List Value} {e b off : Nat} (hb : b < w.heap.size) (hc : ∀ i v, vs[i]? = some v → w.cell? ⟨b, off + i, none⟩ = some v) (hp : vs.all plain0 = true) :
    Sim P w0 (ext1 μ H.length vs.length ⟨b, off, 0, true⟩) (H ++ [.cells vs e vs.length .ro]) w ∧ Sub μ (ext1 μ H.length vs.length ⟨b, off, 0, true⟩) := by
  have hf : ∀ L, μ H.length L = none := fun L => by
    cases hh : μ H.length L with
    | none => rfl
    | some m => have := (h.dom _ _ _ hh).1; omega
  have hsub : Sub μ (ext1 μ H.length vs.length ⟨b, off, 0, true⟩) := ext1_sub (hf _)
  have old : ∀ {id L m}, ext1 μ H.length vs.length ⟨b, off, 0, true⟩ id L = some m → (id = H.length ∧ L = vs.length ∧ m = ⟨b, off, 0, true⟩) ∨ (id ≠ H.length ∧ μ id L = some m) := by
    intro id L m hm
    unfold ext1 at hm
    split at hm
    · rename_i hc; cases hm; exact .inl ⟨hc.1, hc.2, rfl⟩
    · refine .inr ⟨fun e => ?_, hm⟩
      rw [e, hf] at hm
      cases hm
  have hget : ∀ {id o}, (H ++ [AObj.cells vs e vs.length .ro])[id]? = some o → (id < H.length ∧ H[id]? = some o) ∨ (id = H.length ∧ o = .cells vs e vs.length .ro) := by
    intro id o ho
    by_cases hid : id < H.length
    · rw [List.getElem?_append_left hid] at ho
      exact .inl ⟨hid, ho⟩
    · rw [List.getElem?_append_right (by omega)] at ho
      cases hh : id - H.length with
      | zero => rw [hh] at ho; simp only [List.getElem?_cons_zero, Option.some.injEq] at ho; exact .inr ⟨by omega, ho.symm⟩
      | succ k => rw [hh] at ho; simp at ho
  refine ⟨⟨h.below, fun id L m hm => ?_, fun id L m hm => ?_, fun id L m cs e' wr md hm hH => ?_, fun id o ho => ?_, fun id id' o o' L L' m m' hne ho ho' hw hl hl' hm hm' => ?_, h.gl⟩, hsub⟩
  · rcases old hm with ⟨h1, h2, h3⟩ | ⟨h1, h2⟩
    · subst h3; exact ⟨by simp; omega, hb⟩
    · have := h.dom id L m h2; exact ⟨by simp; omega, this.2⟩
  · rcases old hm with ⟨h1, h2, h3⟩ | ⟨h1, h2⟩
    · rw [h1, append_get.1]; simp
    · have := (h.dom id L m h2).1
      rw [List.getElem?_append_left this]
      exact h.nohole id L m h2
  · rcases old hm with ⟨h1, h2, h3⟩ | ⟨h1, h2⟩
    · rw [h1, append_get.1] at hH
      cases hH
      omega
    · have := (h.dom id L m h2).1
      rw [List.getElem?_append_left this] at hH
      exact h.ver id L m cs e' wr md h2 hH
  · rcases hget ho with ⟨hid, ho⟩ | ⟨hid, rfl⟩
    · refine (h.ok id o ho).keep hsub (fun L => ?_) fun _ _ _ _ => rfl
      exact ext1_ne (fun hh => by omega)
    · subst hid
      refine ⟨Nat.le_refl _, ⟨_, ext1_at _ _ _ _⟩, fun L m h1 h2 h3 => ?_⟩
      rcases old h3 with ⟨_, h5, rfl⟩ | ⟨h4, _⟩
      · refine ⟨fun i x _ hx => ⟨x, ?_, .base x (List.all_eq_true.1 hp x (List.mem_of_getElem? hx))⟩, fun hh => by cases hh⟩
        exact hc i x hx
      · exact absurd rfl h4
  · rcases hget ho with ⟨hid, ho⟩ | ⟨hid, rfl⟩
    · rcases hget ho' with ⟨hid', ho'⟩ | ⟨hid', rfl⟩
      · rcases old hm with ⟨h1, _, _⟩ | ⟨_, hm⟩
        · omega
        · rcases old hm' with ⟨h1, _, _⟩ | ⟨_, hm'⟩
          · omega
          · exact h.sep id id' o o' L L' m m' hne ho ho' hw hl hl' hm hm'
      · rw [hnw id o ho] at hw; cases hw
    · cases hw

/-- What is known of memory at the start: rows that are only read. -/
structure ArgSt (P : Program) (W : World) (μ : PMap) (H : AHeap) : Prop where
  sim : Sim P W μ H W
  ro : ∀ (id : Nat) (o : AObj), H[id]? = some o → writable o = false
theorem ArgSt.empty (P : Program) (W : World) (hg : GL P W) : ArgSt P W (fun _ _ => none) [] := ⟨Sim.empty P W hg, fun _ _ h => by simp at h⟩

/-- A slice in an argument. -/
theorem ArgSt.slice {P : Program} {W : World} {μ : PMap} {H : AHeap} (h : ArgSt P W μ H) {e : Nat} {a : Option Addr} {len cap : Nat} (vs : List Value) (hnil : a = none → len = 0 ∧ cap = 0) (hsp : ∀ x, a = some x → x.spot = none ∧ x.block < W.heap.size) (hlen : vs.length = len)
    (hc : ∀ x, a = some x → ∀ i v, vs[i]? = some v → W.cell? (x.add i) = some v) (hcap : len ≤ cap) (hp : vs.all plain0 = true) :
    ∃ av H' μ', ArgSt P W μ' H' ∧ Sub μ μ' ∧ VRel μ' av (.slice a len cap) ∧ Rd H' e 1 av len vs ∧ Stay none H H' ∧ (a = none → av = .slice none 0 0) := by
  cases a with
  | none =>
    obtain ⟨h1, h2⟩ := hnil rfl
    subst h1; subst h2
    exact ⟨.slice none 0 0, H, μ, h, Sub.refl μ, .base _ rfl, ⟨by omega, .inl ⟨rfl, .inl rfl⟩⟩, Stay.refl _ _, fun _ => rfl⟩
  | some x =>
    obtain ⟨b, off, spot⟩ := x
    obtain ⟨h1, h2⟩ := hsp _ rfl
    simp only at h1 h2
    subst h1
    obtain ⟨s1, s2⟩ := h.sim.ro h.ro (vs := vs) (e := e) (b := b) (off := off) h2 (fun i v hv => by
      have := hc _ rfl i v hv
      unfold Addr.add at this
      split at this
      · rename_i hi; subst hi; exact this
      · exact this) hp
    refine ⟨.slice (some ⟨H.length, 0, some vs.length⟩) len len, _, _, ⟨s1, fun id o ho => ?_⟩, s2, ?_, ⟨by omega, .inr ⟨H.length, vs.length, vs.length, .ro, len, vs, rfl, Nat.le_refl _, Nat.le_refl _, by omega, append_get.1, by rw [List.take_of_length_le (by omega)]⟩⟩, Stay.app none H _, fun hh => by cases hh⟩
    · by_cases hid : id < H.length
      · rw [List.getElem?_append_left hid] at ho
        exact h.ro id o ho
      · rw [List.getElem?_append_right (by omega)] at ho
        cases hh : id - H.length with
        | zero => rw [hh] at ho; simp only [List.getElem?_cons_zero, Option.some.injEq] at ho; subst ho; rfl
        | succ k => rw [hh] at ho; simp at ho
    · have := VRel.slice (μ := ext1 μ H.length vs.length ⟨b, off, 0, true⟩) H.length 0 vs.length len len cap ⟨b, off, 0, true⟩ (ext1_at _ _ _ _) hcap (fun _ hh => by cases hh)
      exact this
end Go.Proofs.YtkemihfaohkoeaaDoor.Am
namespace Go.Proofs.YtkemihfaohkoeaaDoor.Am
open Go Go.RowKit Go.ChangeShapes Go.WideShapes

theorem shape_lt {w : World} {b : Nat} {x : TypeId × Nat} (h : w.shape? b = some x) : b < w.heap.size := by
  unfold World.shape? at h
  cases hh : w.heap[b]? with
  | none => rw [hh] at h; cases h
  | some o => exact (Array.getElem?_eq_some_iff.1 hh).1

/-- What is known of a slice's cell. -/
theorem cell_slice {P : Program} {w : World} {r : Reach} {base : Nat} {t e : TypeId} {a : Addr} {len cap : Nat} (ht : P.underlying t = some (.slice e)) (h : Cell.okWide P w r base t (.slice (some a) len cap)) : a.spot = none ∧ a.block < w.heap.size := by
  unfold Cell.okWide at h
  rw [ht] at h
  unfold Cell.ok at h
  rw [ht] at h
  obtain ⟨_, _, _, h1, row, cells, h2, _⟩ := h
  exact ⟨h1, shape_lt h2⟩

end Go.Proofs.YtkemihfaohkoeaaDoor.Am
namespace Go.Proofs.YtkemihfaohkoeaaDoor.Am
open Go Go.RowKit Go.ChangeShapes Go.WideShapes

end Go.Proofs.YtkemihfaohkoeaaDoor.Am
