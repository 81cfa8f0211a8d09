/- A part of the proof of a given statement: AmSim. No condition. -/
import Derived.Test.YthjkodbinkiifaaPart1
import Derived.Below
namespace Go.Proofs.Ythjkodbinkiifaa.Am
open Go Go.RowKit

structure Place where
 b : Nat
 off : Nat
 cap : Nat
 arr : Bool
abbrev PMap := Nat → Nat → Option Place

def Place.at_ (m : Place) (o : Nat) : Addr := ⟨m.b, m.off + o, none⟩

inductive VRel (μ : PMap) : Value → Value → Prop where
 | any (v : Value) : VRel μ (.tuple #[]) v
 | skipped : VRel μ (.tuple #[.tuple #[]]) (.tuple #[])
 | base (v : Value) (h : plain0 v = true) : VRel μ v v
 | ptr (id off L : Nat) (m : Place) (h : μ id L = some m) : VRel μ (.pointer (some ⟨id, off, some L⟩)) (.pointer (some (m.at_ off)))
 | slice (id off L n c c' : Nat) (m : Place) (h : μ id L = some m) (hc : c ≤ c') (hcap : off = 0 → m.arr = false → c' ≤ m.cap) :
   VRel μ (.slice (some ⟨id, off, some L⟩) n c) (.slice (some (m.at_ off)) n c')
 | empty (b : Addr) : VRel μ (.slice (some ⟨0, 0, none⟩) 0 0) (.slice (some b) 0 0)
 | gptr (g off : Nat) : VRel μ (.pointer (some ⟨g, off, none⟩)) (.pointer (some ⟨g, off, none⟩))
 | lost (b o c : Nat) : VRel μ (.slice (some ⟨1, 0, none⟩) 0 0) (.slice (some ⟨b, o, none⟩) 0 c)
 | map (id : Nat) (m : Place) (h : μ id 0 = some m) : VRel μ (.map (some id)) (.map (some m.b))
 | func (f : FuncId) (fi fi' cap cap' : Array Value) (hs1 : fi.size = fi'.size) (h1 : ∀ (i : Nat) (x y : Value), fi[i]? = some x → fi'[i]? = some y → VRel μ x y) (hs : cap.size = cap'.size) (h : ∀ (i : Nat) (x y : Value), cap[i]? = some x → cap'[i]? = some y → VRel μ x y) :
   VRel μ (.func (.func f) fi cap) (.func (.func f) fi' cap')
 | agg (cs cs' : Array Value) (hs : cs.size = cs'.size) (h : ∀ (i : Nat) (x y : Value), cs[i]? = some x → cs'[i]? = some y → VRel μ x y) : VRel μ (.agg cs) (.agg cs')
 | tuple (cs cs' : Array Value) (hs : cs.size = cs'.size) (h : ∀ (i : Nat) (x y : Value), cs[i]? = some x → cs'[i]? = some y → VRel μ x y) : VRel μ (.tuple cs) (.tuple cs')

def Sub (μ μ' : PMap) : Prop := ∀ id L m, μ id L = some m → μ' id L = some m
theorem Sub.refl (μ : PMap) : Sub μ μ := fun _ _ _ h => h
theorem Sub.trans {a b c : PMap} (h : Sub a b) (k : Sub b c) : Sub a c := fun id L m e => k id L m (h id L m e)

theorem VRel.mono {μ μ' : PMap} (hs : Sub μ μ') {v v' : Value} (h : VRel μ v v') : VRel μ' v v' := by
 induction h with
 | any v => exact .any v
 | skipped => exact .skipped
 | base v h => exact .base v h
 | ptr id off L m h => exact .ptr id off L m (hs _ _ _ h)
 | slice id off L n c c' m h hc hcap => exact .slice id off L n c c' m (hs _ _ _ h) hc hcap
 | empty b => exact .empty b
 | gptr g off => exact .gptr g off
 | lost a o c => exact .lost a o c
 | map id m h => exact .map id m (hs _ _ _ h)
 | func f fi fi' cap cap' hs1 h1 hs' h ih1 ih => exact .func f fi fi' cap cap' hs1 ih1 hs' ih
 | agg cs cs' hs' h ih => exact .agg cs cs' hs' ih
 | tuple cs cs' hs' h ih => exact .tuple cs cs' hs' ih

/-- Lists of values, one by one. -/
def LRel (μ : PMap) (l l' : List Value) : Prop := l.length = l'.length ∧ ∀ (i : Nat) (x y : Value), l[i]? = some x → l'[i]? = some y → VRel μ x y
theorem LRel.nil (μ : PMap) : LRel μ [] [] := ⟨rfl, fun i x y h => by simp at h⟩
theorem LRel.cons {μ : PMap} {x y : Value} {l l' : List Value} (h : VRel μ x y) (hl : LRel μ l l') : LRel μ (x :: l) (y :: l') := by
 refine ⟨by simp [hl.1], fun i a b ha hb => ?_⟩
 cases i with
 | zero => simp at ha hb; subst ha; subst hb; exact h
 | succ i => exact hl.2 i a b (by simpa using ha) (by simpa using hb)
theorem LRel.of_plain (μ : PMap) {l : List Value} (h : l.all plain0 = true) : LRel μ l l :=
 ⟨rfl, fun i x y hx hy => by rw [hx] at hy; cases hy; exact .base x (List.all_eq_true.1 h x (List.mem_of_getElem? hx))⟩
theorem LRel.get {μ : PMap} {l l' : List Value} (h : LRel μ l l') {i : Nat} {x : Value} (hx : l[i]? = some x) : ∃ y, l'[i]? = some y ∧ VRel μ x y := by
 have hi : i < l'.length := by rw [← h.1]; exact (List.getElem?_eq_some_iff.1 hx).1
 exact ⟨l'[i], List.getElem?_eq_getElem hi, h.2 i x _ hx (List.getElem?_eq_getElem hi)⟩
theorem LRel.append {μ : PMap} {a a' b b' : List Value} (h : LRel μ a a') (k : LRel μ b b') : LRel μ (a ++ b) (a' ++ b') := by
 refine ⟨by simp [h.1, k.1], fun i x y hx hy => ?_⟩
 by_cases hi : i < a.length
 ·rw [List.getElem?_append_left hi] at hx
  rw [List.getElem?_append_left (by rw [← h.1]; exact hi)] at hy
  exact h.2 i x y hx hy
 ·rw [List.getElem?_append_right (by omega)] at hx
  rw [List.getElem?_append_right (by rw [← h.1]; omega), ← h.1] at hy
  exact k.2 _ x y hx hy
theorem LRel.take {μ : PMap} {a a' : List Value} (h : LRel μ a a') (n : Nat) : LRel μ (a.take n) (a'.take n) := by
 refine ⟨by simp [h.1], fun i x y hx hy => ?_⟩
 rw [List.getElem?_take] at hx hy
 split at hx
 ·rename_i hi; rw [if_pos hi] at hy; exact h.2 i x y hx hy
 ·cases hx
theorem LRel.drop {μ : PMap} {a a' : List Value} (h : LRel μ a a') (n : Nat) : LRel μ (a.drop n) (a'.drop n) := by
 refine ⟨by simp [h.1], fun i x y hx hy => ?_⟩
 rw [List.getElem?_drop] at hx hy
 exact h.2 _ x y hx hy
theorem LRel.putList {μ : PMap} {a a' v v' : List Value} (h : LRel μ a a') (k : LRel μ v v') (off : Nat) : LRel μ (putList a off v) (putList a' off v') := by
 unfold Am.putList
 rw [← k.1]
 exact ((h.take off).append k).append (h.drop _)
theorem LRel.rep {μ : PMap} {z z' : List Value} (h : LRel μ z z') : ∀ n, LRel μ (repCells z n) (repCells z' n)
 | 0 => LRel.nil μ
 | n + 1 => h.append (LRel.rep h n)

/-! ### What a value tells of the one that it stands for -/
section inv
variable {μ : PMap} {v' : Value}
theorem VRel.int_inv {k : IntKind} {n : Int} (h : VRel μ (.int k n) v') : v' = .int k n := by cases h; rfl
theorem VRel.bool_inv {b : Bool} (h : VRel μ (.bool b) v') : v' = .bool b := by cases h; rfl
theorem VRel.string_inv {s : ByteArray} (h : VRel μ (.string s) v') : v' = .string s := by cases h; rfl
theorem VRel.ptr_inv {id off L : Nat} (h : VRel μ (.pointer (some ⟨id, off, some L⟩)) v') : ∃ m, μ id L = some m ∧ v' = .pointer (some (m.at_ off)) := by
 cases h with
 | base v h => simp [plain0] at h
 | ptr id off L m h => exact ⟨m, h, rfl⟩
theorem VRel.gptr_inv {g off : Nat} (h : VRel μ (.pointer (some ⟨g, off, none⟩)) v') : v' = .pointer (some ⟨g, off, none⟩) := by
 cases h with
 | base v h => simp [plain0] at h
 | gptr g off => rfl
theorem VRel.slice_inv {id off L n c : Nat} (h : VRel μ (.slice (some ⟨id, off, some L⟩) n c) v') :
  ∃ m c', μ id L = some m ∧ c ≤ c' ∧ (off = 0 → m.arr = false → c' ≤ m.cap) ∧ v' = .slice (some (m.at_ off)) n c' := by
 cases h with
 | base v h => simp [plain0] at h
 | slice id off L n c c' m h hc hcap => exact ⟨m, c', h, hc, hcap, rfl⟩
theorem VRel.plain_inv {v : Value} (hp : plain0 v = true) (h : VRel μ v v') : v' = v := by
 cases h <;> simp [plain0] at hp <;> rfl
theorem VRel.agg_inv {cs : Array Value} (h : VRel μ (.agg cs) v') : ∃ cs', v' = .agg cs' ∧ LRel μ cs.toList cs'.toList := by
 cases h with
 | base v h => simp [plain0] at h
 | agg cs cs' hs h => exact ⟨cs', rfl, by simpa using hs, fun i x y hx hy => h i x y (by simpa using hx) (by simpa using hy)⟩
theorem VRel.map_inv {id : Nat} (h : VRel μ (.map (some id)) v') : ∃ m, μ id 0 = some m ∧ v' = .map (some m.b) := by
 cases h with
 | base v h => simp [plain0] at h
 | map id m h => exact ⟨m, h, rfl⟩
theorem VRel.func_inv {f : FuncId} {fi cap : Array Value} (h : VRel μ (.func (.func f) fi cap) v') : ∃ fi' cap', v' = .func (.func f) fi' cap' ∧ LRel μ fi.toList fi'.toList ∧ LRel μ cap.toList cap'.toList := by
 cases h with
 | base v h => simp [plain0] at h
 | func f fi fi' cap cap' hs1 h1 hs h => exact ⟨fi', cap', rfl, ⟨by simpa using hs1, fun i x y hx hy => h1 i x y (by simpa using hx) (by simpa using hy)⟩, by simpa using hs, fun i x y hx hy => h i x y (by simpa using hx) (by simpa using hy)⟩
theorem VRel.mk_agg {l l' : List Value} (h : LRel μ l l') : VRel μ (.agg l.toArray) (.agg l'.toArray) :=
 .agg _ _ (by simpa using h.1) fun i x y hx hy => h.2 i x y (by simpa using hx) (by simpa using hy)
theorem VRel.mk_tuple {l l' : List Value} (h : LRel μ l l') : VRel μ (.tuple l.toArray) (.tuple l'.toArray) :=
 .tuple _ _ (by simpa using h.1) fun i x y hx hy => h.2 i x y (by simpa using hx) (by simpa using hy)
end inv

theorem VRel.of_plain1 {μ : PMap} {v : Value} (h : plain1 v = true) : VRel μ v v := by
 unfold plain1 at h
 split at h
 ·rename_i cs
  exact .agg cs cs rfl fun i x y hx hy => by
   rw [hx] at hy; cases hy
   exact .base x (List.all_eq_true.1 h x (by have := Array.mem_of_getElem? hx; simpa using this))
 ·exact .base _ h

theorem VRel.plain1_inv {μ : PMap} {v v' : Value} (hp : plain1 v = true) (h : VRel μ v v') : v' = v := by
 unfold plain1 at hp
 split at hp
 ·rename_i cs
  obtain ⟨cs', rfl, hl⟩ := h.agg_inv
  congr 1
  apply Array.ext'
  apply List.ext_getElem?
  intro i
  cases hc : cs.toList[i]? with
  | none =>
   rw [List.getElem?_eq_none_iff] at hc ⊢
   rw [← hl.1]; exact hc
  | some x =>
   obtain ⟨y, hy, hr⟩ := hl.get hc
   rw [hy, hr.plain_inv (List.all_eq_true.1 hp x (List.mem_of_getElem? hc))]
 ·exact h.plain_inv hp

theorem VRel.of_plain {μ : PMap} {v : Value} (h : plain v = true) : VRel μ v v := by
 unfold plain at h
 split at h
 ·rename_i vs
  simp only [Bool.and_eq_true] at h
  exact .tuple vs vs rfl fun i x y hx hy => by
   rw [hx] at hy; cases hy
   exact VRel.of_plain1 (List.all_eq_true.1 h.2 x (by have := Array.mem_of_getElem? hx; simpa using this))
 ·exact VRel.of_plain1 h

/-- The cells of a value that is stored. -/
theorem VRel.cells {μ : PMap} {v v' : Value} (h : VRel μ v v') (hc : (cellsOf v).all isCell = true) (hn : ∀ cs, v ≠ .tuple cs) : LRel μ (cellsOf v) (cellsOf v') := by
 cases h with
 | any v => exact absurd rfl (hn _)
 | skipped => exact absurd rfl (hn _)
 | base v hp =>
  refine ⟨rfl, fun i x y hx hy => ?_⟩
  rw [hx] at hy; cases hy
  cases v <;> simp [plain0] at hp <;> simp [cellsOf, Value.cells, List.getElem?_cons] at hx <;> obtain ⟨_, rfl⟩ := hx <;> exact .base _ (by simp [plain0, *])
 | agg cs cs' hs h => exact ⟨by simpa [cellsOf, Value.cells] using hs, fun i x y hx hy => h i x y (by simpa [cellsOf, Value.cells] using hx) (by simpa [cellsOf, Value.cells] using hy)⟩
 | tuple cs cs' hs h => exact absurd rfl (hn _)
 | ptr id off L m h => exact LRel.cons (.ptr id off L m h) (LRel.nil μ)
 | slice id off L n c c' m h hc' hcap => exact LRel.cons (.slice id off L n c c' m h hc' hcap) (LRel.nil μ)
 | empty b => exact LRel.cons (.empty b) (LRel.nil μ)
 | gptr g off => exact LRel.cons (.gptr g off) (LRel.nil μ)
 | lost a o c => exact LRel.cons (.lost a o c) (LRel.nil μ)
 | map id m h => exact LRel.cons (.map id m h) (LRel.nil μ)
 | func f fi fi' cap cap' hs1 h1 hs h => exact LRel.cons (.func f fi fi' cap cap' hs1 h1 hs h) (LRel.nil μ)

/-! ### Memory -/
def lives : AObj → Nat → Prop
 | .cells cs _ wr _, L => wr ≤ L ∧ L ≤ cs.length
 | .hole, _ => False
 | _, L => L = 0
def writable : AObj → Bool
 | .cells _ _ _ md => md.rw
 | .hole => false
 | _ => true

def ObjOK (P : Program) (w0 w : World) (μ : PMap) (id : Nat) : AObj → Prop
 | .cells cs e wr md => wr ≤ cs.length ∧ (∃ m, μ id cs.length = some m) ∧ ∀ L m, wr ≤ L → L ≤ cs.length → μ id L = some m →
   (∀ i x, i < L → cs[i]? = some x → ∃ v', w.cell? (m.at_ i) = some v' ∧ VRel μ x v') ∧
   (md.rw = true → m.arr = !md.isRow ∧ m.off = 0 ∧ w0.heap.size ≤ m.b ∧ ∃ c, w.heap[m.b]? = some (.cells c e (0, 0)) ∧ ∀ s, tsize P e = some s → m.cap * s ≤ c.size)
 | .map es => ∃ m, μ id 0 = some m ∧ w0.heap.size ≤ m.b ∧ ∃ es' clock, w.heap[m.b]? = some (.map es' clock) ∧ es'.size = es.length ∧
   ∀ (i : Nat) x y, es[i]? = some x → es'[i]? = some y → plain1 x.1 = true ∧ y.key = x.1 ∧ VRel μ x.2 y.val
 | .iter s pos => ∃ m, μ id 0 = some m ∧ m.off = 0 ∧ w0.heap.size ≤ m.b ∧ w.heap[m.b]? = some (.stringIter s pos)
 | .hole => True

/-- The known package-level variables hold what they hold. -/
def GL (P : Program) (w0 : World) : Prop := ∀ g cs, known P g = some cs → ∀ (i : Nat) v, cs[i]? = some v → w0.cell? ⟨g, i, none⟩ = some v ∧ plain0 v = true
structure Sim (P : Program) (w0 : World) (μ : PMap) (H : AHeap) (w : World) : Prop where
 below : Below w0.heap.size w0 w
 dom : ∀ id L m, μ id L = some m → id < H.length ∧ m.b < w.heap.size
 nohole : ∀ id L m, μ id L = some m → H[id]? ≠ some .hole
 ver : ∀ id L m cs e wr md, μ id L = some m → H[id]? = some (.cells cs e wr md) → L ≤ cs.length
 ok : ∀ id o, H[id]? = some o → ObjOK P w0 w μ id o
 sep : ∀ id id' o o' L L' m m', id ≠ id' → H[id]? = some o → H[id']? = some o' → writable o = true → lives o L → lives o' L' → μ id L = some m → μ id' L' = some m' → m.b ≠ m'.b
 gl : GL P w0

theorem ObjOK.keep {P : Program} {w0 w w' : World} {μ μ' : PMap} {id : Nat} {o : AObj} (h : ObjOK P w0 w μ id o) (hs : Sub μ μ') (hid : ∀ L, μ' id L = μ id L)
  (hb : ∀ L m, lives o L → μ id L = some m → w'.heap[m.b]? = w.heap[m.b]?) : ObjOK P w0 w' μ' id o := by
 cases o with
 | cells cs e wr md =>
  obtain ⟨hwr, ⟨m0, hm0⟩, h⟩ := h
  refine ⟨hwr, ⟨m0, by rw [hid]; exact hm0⟩, fun L m h1 h2 h3 => ?_⟩
  rw [hid] at h3
  obtain ⟨ha, hr⟩ := h L m h1 h2 h3
  have hbb := hb L m ⟨h1, h2⟩ h3
  refine ⟨fun i x hi hx => ?_, fun hro => ?_⟩
  ·obtain ⟨v', hc, hv⟩ := ha i x hi hx
   exact ⟨v', by rw [World.cell?_of_block (w := w) (a := m.at_ i) hbb]; exact hc, hv.mono hs⟩
  ·obtain ⟨k0, k1, k2, c, k3, k4⟩ := hr hro
   exact ⟨k0, k1, k2, c, by rw [hbb]; exact k3, k4⟩
 | map es =>
  obtain ⟨m, h1, h2, es', clock, h3, h4, h5⟩ := h
  refine ⟨m, by rw [hid]; exact h1, h2, es', clock, by rw [hb 0 m rfl h1]; exact h3, h4, fun i x y hx hy => ?_⟩
  obtain ⟨a, b, c⟩ := h5 i x y hx hy
  exact ⟨a, b, c.mono hs⟩
 | iter s pos =>
  obtain ⟨m, h1, h2, h3, h4⟩ := h
  exact ⟨m, by rw [hid]; exact h1, h2, h3, by rw [hb 0 m rfl h1]; exact h4⟩
 | hole => trivial

theorem GL.below {P : Program} {w0 w : World} (h : GL P w0) (hb : Below w0.heap.size w0 w) : GL P w := fun g cs hk i v hv => by
 obtain ⟨h1, h2⟩ := h g cs hk i v hv
 refine ⟨?_, h2⟩
 have hg : g < w0.heap.size := by
  unfold World.cell? at h1
  split at h1
  ·rename_i c t f hh
   exact (Array.getElem?_eq_some_iff.1 hh).1
  ·cases h1
 have he := hb.block g hg
 unfold World.cell? at h1 ⊢
 simp only at h1 ⊢
 rw [he]
 exact h1
/-- Draws and the like: the heap is as it was. -/
theorem Sim.same {P : Program} {w0 w w' : World} {μ : PMap} {H : AHeap} (h : Sim P w0 μ H w) (hh : w'.heap = w.heap) (h1 : w'.os = w.os) (h2 : w'.tape = w.tape) (h3 : w'.output = w.output) : Sim P w0 μ H w' := by
 refine ⟨⟨h1.trans h.below.os, h2.trans h.below.tape, h3.trans h.below.output, by rw [hh]; exact h.below.size, fun k hk => by rw [hh]; exact h.below.block k hk⟩, fun id L m e => by rw [hh]; exact h.dom id L m e, h.nohole, h.ver, fun id o ho => ?_, h.sep, h.gl⟩
 exact (h.ok id o ho).keep (Sub.refl μ) (fun _ => rfl) fun _ _ _ _ => by rw [hh]

def ext1 (μ : PMap) (id L : Nat) (m : Place) : PMap := fun i K => if i = id ∧ K = L then some m else μ i K
theorem ext1_at (μ : PMap) (id L : Nat) (m : Place) : ext1 μ id L m id L = some m := by simp [ext1]
theorem ext1_ne {μ : PMap} {id L : Nat} {m : Place} {i K : Nat} (h : ¬ (i = id ∧ K = L)) : ext1 μ id L m i K = μ i K := by simp [ext1, h]
theorem ext1_sub {μ : PMap} {id L : Nat} {m : Place} (h : μ id L = none) : Sub μ (ext1 μ id L m) := fun i K p e => by
 rw [ext1_ne]; · exact e
 ·rintro ⟨rfl, rfl⟩; rw [h] at e; cases e

theorem Sim.fresh {P : Program} {w0 w : World} {μ : PMap} {H : AHeap} (h : Sim P w0 μ H w) (L : Nat) : μ H.length L = none := by
 cases e : μ H.length L with
 | none => rfl
 | some m => exact absurd (h.dom _ _ _ e).1 (by omega)

/-- A new object at a name that stands for nothing so far. -/
theorem Sim.place {P : Program} {w0 w : World} {μ : PMap} {H H2 : AHeap} (h : Sim P w0 μ H w) (tid : Nat) (o : AObj) (x : Obj) (L : Nat) (m : Place) (hm : m.b = w.heap.size) (hfresh : ∀ K, μ tid K = none)
  (hget : H2[tid]? = some o) (hoth : ∀ id, id ≠ tid → H2[id]? = H[id]?) (hlen : H.length ≤ H2.length) (hno : o ≠ .hole)
  (hL : ∀ K, lives o K → K = L) (hver : ∀ cs e wr md, o = .cells cs e wr md → L ≤ cs.length) (hok : ObjOK P w0 (w.alloc x) (ext1 μ tid L m) tid o) :
  Sim P w0 (ext1 μ tid L m) H2 (w.alloc x) := by
 have hsub : Sub μ (ext1 μ tid L m) := ext1_sub (hfresh L)
 have hsz : (w.alloc x).heap.size = w.heap.size + 1 := by simp
 have htl : tid < H2.length := (List.getElem?_eq_some_iff.1 hget).1
 have hold : ∀ id K, id ≠ tid → ext1 μ tid L m id K = μ id K := fun id K hne => ext1_ne fun e => hne e.1
 refine ⟨h.below.alloc h.below.size x, fun id K p e => ?_, fun id K p e => ?_, fun id K p cs e wr md hp ho => ?_, fun id o' ho => ?_, ?_, h.gl⟩
 ·by_cases hid : id = tid ∧ K = L
  ·obtain ⟨rfl, rfl⟩ := hid
   rw [ext1_at] at e; cases e
   refine ⟨htl, ?_⟩
   rw [hsz, hm]; omega
  ·rw [ext1_ne hid] at e
   have := h.dom id K p e
   refine ⟨by omega, ?_⟩
   rw [hsz]; omega
 ·by_cases hid : id = tid
  ·subst hid
   rw [hget]
   intro hh
   exact hno (Option.some.inj hh)
  ·rw [hold id K hid] at e
   rw [hoth id hid]
   exact h.nohole id K p e
 ·by_cases hid : id = tid
  ·subst hid
   rw [hget] at ho
   simp at ho
   by_cases hK : K = L
   ·subst hK; exact hver _ _ _ _ ho
   ·rw [ext1_ne (fun x => hK x.2), hfresh K] at hp; cases hp
  ·rw [hoth id hid] at ho
   rw [hold id K hid] at hp
   exact h.ver id K p cs e wr md hp ho
 ·by_cases hid : id = tid
  ·subst hid
   rw [hget] at ho
   cases ho
   exact hok
  ·rw [hoth id hid] at ho
   exact (h.ok id o' ho).keep hsub (fun K => hold id K hid) fun K p _ hp => by
    rw [Below.heap_alloc _ _ _ (h.dom id K p hp).2]
 ·intro id id' a a' K K' p p' hne ha ha' hw hl hl' hp hp'
  have key : ∀ i oi Ki pi, H2[i]? = some oi → lives oi Ki → ext1 μ tid L m i Ki = some pi → (i = tid ∧ pi.b = w.heap.size) ∨ (i ≠ tid ∧ H[i]? = some oi ∧ μ i Ki = some pi ∧ pi.b < w.heap.size) := by
   intro i oi Ki pi hi hli hpi
   by_cases hid : i = tid
   ·subst hid
    rw [hget] at hi
    cases hi
    have := hL Ki hli
    subst this
    rw [ext1_at] at hpi; cases hpi; exact .inl ⟨rfl, hm⟩
   ·rw [hoth i hid] at hi
    rw [hold i Ki hid] at hpi
    exact .inr ⟨hid, hi, hpi, (h.dom i Ki pi hpi).2⟩
  rcases key id a K p ha hl hp with ⟨h1, h2⟩ | ⟨h1, h2, h3, h4⟩
  ·rcases key id' a' K' p' ha' hl' hp' with ⟨k1, k2⟩ | ⟨k1, k2, k3, k4⟩
   ·exact absurd (h1.trans k1.symm) hne
   ·omega
  ·rcases key id' a' K' p' ha' hl' hp' with ⟨k1, k2⟩ | ⟨k1, k2, k3, k4⟩
   ·omega
   ·exact h.sep id id' a a' K K' p p' hne h2 k2 hw hl hl' h3 k3

theorem append_get {H : AHeap} {o : AObj} : (H ++ [o])[H.length]? = some o ∧ ∀ id, id ≠ H.length → (H ++ [o])[id]? = H[id]? := by
 refine ⟨by simp, fun id hne => ?_⟩
 by_cases hlt : id < H.length
 ·exact List.getElem?_append_left hlt
 ·rw [List.getElem?_eq_none (by simp; omega), List.getElem?_eq_none (by omega)]

/-- A new object. -/
theorem Sim.new {P : Program} {w0 w : World} {μ : PMap} {H : AHeap} (h : Sim P w0 μ H w) (o : AObj) (x : Obj) (L : Nat) (m : Place) (hm : m.b = w.heap.size) (hno : o ≠ .hole)
  (hL : ∀ K, lives o K → K = L) (hver : ∀ cs e wr md, o = .cells cs e wr md → L ≤ cs.length) (hok : ObjOK P w0 (w.alloc x) (ext1 μ H.length L m) H.length o) :
  Sim P w0 (ext1 μ H.length L m) (H ++ [o]) (w.alloc x) :=
 h.place H.length o x L m hm h.fresh append_get.1 append_get.2 (by simp) hno hL hver hok

end Go.Proofs.Ythjkodbinkiifaa.Am
