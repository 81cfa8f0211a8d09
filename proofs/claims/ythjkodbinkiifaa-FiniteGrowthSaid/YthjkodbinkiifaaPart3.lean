/- A part of the proof of a given statement: AmMem, AmOps, AmOps2. No condition. -/
import Derived.Test.YthjkodbinkiifaaPart2
import Derived.WalkKit
namespace Go.Proofs.Ythjkodbinkiifaa.Am
open Go Go.RowKit

theorem oneCell_of {v v' : Value} {μ : PMap} (h : isCell v = true) (hr : VRel μ v v') : v'.oneCell' = true := by
 cases hr <;> simp [isCell] at h <;> first | rfl | (rename_i h'; cases v <;> simp [plain0] at h' <;> first | rfl | simp [isCell] at h)

theorem LRel.oneCell {μ : PMap} {l l' : List Value} (h : LRel μ l l') (hc : l.all isCell = true) : ∀ v ∈ l', v.oneCell' = true := by
 intro v hv
 obtain ⟨i, hi, rfl⟩ := List.mem_iff_getElem.1 hv
 have hi' : i < l.length := by rw [h.1]; exact hi
 exact oneCell_of (List.all_eq_true.1 hc _ (List.getElem_mem hi')) (h.2 i _ _ (List.getElem?_eq_getElem hi') (List.getElem?_eq_getElem hi))

theorem getCells_some {H : AHeap} {id L off n : Nat} {cs : List Value} (h : getCells H id L off n = some cs) :
  ∃ all e wr md, H[id]? = some (.cells all e wr md) ∧ wr ≤ L ∧ L ≤ all.length ∧ off + n ≤ L ∧ cs = (all.drop off).take n := by
 unfold getCells at h
 split at h
 ·rename_i all e wr md hh
  split at h
  ·rename_i hc
   exact ⟨all, e, wr, md, hh, hc.1, hc.2.1, hc.2.2, by simpa using h.symm⟩
  ·cases h
 ·cases h

theorem getCells_sound {P : Program} {w0 w : World} {μ : PMap} {H : AHeap} (h : Sim P w0 μ H w) {id L off n : Nat} {cs : List Value} {m : Place}
  (hg : getCells H id L off n = some cs) (hm : μ id L = some m) :
  cs.length = n ∧ ∃ cs', LRel μ cs cs' ∧ ∀ j v, cs'[j]? = some v → w.cell? ((m.at_ off).add j) = some v := by
 obtain ⟨all, e, wr, md, hh, h1, h2, h3, rfl⟩ := getCells_some hg
 obtain ⟨_, _, hk⟩ := h.ok id _ hh
 obtain ⟨hr, _⟩ := hk L m h1 h2 hm
 have hlen : ((all.drop off).take n).length = n := by simp; omega
 refine ⟨hlen, (List.range n).map fun j => (w.cell? (m.at_ (off + j))).getD undef, ⟨by simp [hlen], fun i x y hx hy => ?_⟩, fun j v hv => ?_⟩
 ·have hi : i < n := by rw [← hlen]; exact (List.getElem?_eq_some_iff.1 hx).1
  rw [List.getElem?_take, if_pos hi, List.getElem?_drop] at hx
  obtain ⟨v', hc, hv⟩ := hr (off + i) x (by omega) hx
  simp [hi] at hy
  rw [hc] at hy
  simp at hy; subst hy; exact hv
 ·have hj : j < n := by simpa using (List.getElem?_eq_some_iff.1 hv).1
  simp [hj] at hv
  have hx : off + j < all.length := by omega
  obtain ⟨v', hc, _⟩ := hr (off + j) all[off + j] (by omega) (List.getElem?_eq_getElem hx)
  rw [hc] at hv
  simp at hv; subst hv
  have : (m.at_ off).add j = m.at_ (off + j) := by simp [Place.at_, Addr.add_lit, Nat.add_assoc]
  rw [this]; exact hc

/-- An object gives way to another one at the same name. -/
theorem Sim.update {P : Program} {w0 w w' : World} {μ μ' : PMap} {H : AHeap} (h : Sim P w0 μ H w) {id L0 : Nat} {o o' : AObj} {m : Place} (hid : H[id]? = some o) (hw : writable o = true)
  (hl0 : lives o L0) (hm : μ id L0 = some m) (hsub : Sub μ μ') (hoth : ∀ i K, i ≠ id → μ' i K = μ i K) (hb : ∀ b, b < w.heap.size → b ≠ m.b → w'.heap[b]? = w.heap[b]?)
  (hbase : w0.heap.size ≤ m.b) (hsz : w.heap.size ≤ w'.heap.size) (hos : w'.os = w.os) (htape : w'.tape = w.tape) (hout : w'.output = w.output)
  (hok : ObjOK P w0 w' μ' id o') (hlive : ∀ K p, lives o' K → μ' id K = some p → (∃ K' p', lives o K' ∧ μ id K' = some p' ∧ p'.b = p.b) ∨ w.heap.size ≤ p.b)
  (hdom : ∀ K p, μ' id K = some p → p.b < w'.heap.size) (hver : ∀ K p cs e wr md, μ' id K = some p → o' = .cells cs e wr md → K ≤ cs.length) (hno : o' ≠ .hole) : Sim P w0 μ' (H.set id o') w' := by
 have hlt : id < H.length := (List.getElem?_eq_some_iff.1 hid).1
 have hget : ∀ i oi, (H.set id o')[i]? = some oi → (i = id ∧ oi = o') ∨ (i ≠ id ∧ H[i]? = some oi) := by
  intro i oi hi
  by_cases e : i = id
  ·subst e
   rw [List.getElem?_set_self hlt] at hi
   exact .inl ⟨rfl, by simpa using hi.symm⟩
  ·rw [List.getElem?_set_ne (fun x => e x.symm)] at hi
   exact .inr ⟨e, hi⟩
 refine ⟨h.below.trans ⟨hos, htape, hout, hsz, fun k hk => hb k (by have := h.below.size; omega) (by omega)⟩, fun i K p e => ?_, fun i K p e hh => ?_, fun i K p cs e wr md hp hi => ?_, fun i oi hi => ?_, ?_, h.gl⟩
 ·by_cases hi : i = id
  ·subst hi; exact ⟨by simpa using hlt, hdom K p e⟩
  ·rw [hoth i K hi] at e
   have := h.dom i K p e
   exact ⟨by simpa using this.1, by omega⟩
 ·rcases hget i _ hh with ⟨rfl, hx⟩ | ⟨hne, hi'⟩
  ·exact hno hx.symm
  ·rw [hoth i K hne] at e
   exact h.nohole i K p e hi'
 ·rcases hget i _ hi with ⟨rfl, hh⟩ | ⟨hne, hi'⟩
  ·exact hver K p cs e wr md hp hh.symm
  ·rw [hoth i K hne] at hp
   exact h.ver i K p cs e wr md hp hi'
 ·rcases hget i oi hi with ⟨rfl, rfl⟩ | ⟨hne, hi'⟩
  ·exact hok
  ·refine (h.ok i oi hi').keep hsub (fun K => hoth i K hne) fun K p hl hp => hb p.b (h.dom i K p hp).2 fun e => ?_
   exact h.sep id i o oi L0 K m p (fun e => hne e.symm) hid hi' hw hl0 hl hm hp e.symm
 ·intro i i' a a' K K' p p' hne ha ha' hwa hl hl' hp hp' hpb
  rcases hget i a ha with ⟨rfl, rfl⟩ | ⟨h1, h2⟩
  ·rcases hget i' a' ha' with ⟨rfl, rfl⟩ | ⟨k1, k2⟩
   ·exact hne rfl
   ·rw [hoth i' K' k1] at hp'
    rcases hlive K p hl hp with ⟨K2, p2, x1, x2, x3⟩ | x
    ·exact h.sep i i' o a' K2 K' p2 p' hne hid k2 hw x1 hl' x2 hp' (by omega)
    ·have := (h.dom i' K' p' hp').2; omega
  ·rw [hoth i K h1] at hp
   rcases hget i' a' ha' with ⟨rfl, rfl⟩ | ⟨k1, k2⟩
   ·rcases hlive K' p' hl' hp' with ⟨K2, p2, x1, x2, x3⟩ | x
    ·exact h.sep i' i o a K2 K p2 p (fun e => hne e.symm) hid h2 hw x1 hl x2 hp (by omega)
    ·have := (h.dom i K p hp).2; omega
   ·rw [hoth i' K' k1] at hp'
    exact h.sep i i' a a' K K' p p' hne h2 k2 hwa hl hl' hp hp' hpb

theorem setCells_some {H H' : AHeap} {prot id L off : Nat} {vs : List Value} (h : setCells H prot id L off vs = some H') :
  ∃ cs e wr md, H[id]? = some (.cells cs e wr md) ∧ md.rw = true ∧ prot ≤ id ∧ L = cs.length ∧ off + vs.length ≤ L ∧ vs.all isCell = true ∧ H' = H.set id (.cells (putList cs off vs) e L md) := by
 unfold setCells at h
 split at h
 ·rename_i cs e wr md hh
  split at h
  ·rename_i hc
   obtain ⟨h1, h2, h3, h4, h5⟩ := hc
   exact ⟨cs, e, wr, md, hh, h1, h2, h3, h4, h5, by simpa using h.symm⟩
  ·cases h
 ·cases h

theorem length_putList {cs vs : List Value} {off : Nat} (h : off + vs.length ≤ cs.length) : (putList cs off vs).length = cs.length := by
 simp [putList]; omega

theorem getElem?_putList {cs vs : List Value} {off i : Nat} (h : off + vs.length ≤ cs.length) :
  (putList cs off vs)[i]? = if off ≤ i ∧ i < off + vs.length then vs[i - off]? else cs[i]? := by
 unfold putList
 by_cases h1 : i < off
 ·rw [if_neg (by omega), List.append_assoc, List.getElem?_append_left (by simp; omega), List.getElem?_take, if_pos h1]
 ·by_cases h2 : i < off + vs.length
  ·rw [if_pos ⟨by omega, h2⟩, List.append_assoc, List.getElem?_append_right (by simp; omega), List.getElem?_append_left (by simp; omega)]
   congr 1; simp; omega
  ·rw [if_neg (by omega), List.getElem?_append_right (by simp; omega), List.getElem?_drop]
   congr 1; simp; omega

theorem setCells_sound {P : Program} {w0 w : World} {μ : PMap} {H H' : AHeap} (h : Sim P w0 μ H w) {prot id L off : Nat} {vs vs' : List Value} {m : Place}
  (hs : setCells H prot id L off vs = some H') (hm : μ id L = some m) (hv : LRel μ vs vs') :
  ∃ w', (storeCells (m.at_ off) vs' 0).run P w = .ok () w' ∧ Sim P w0 μ H' w' := by
 obtain ⟨cs, e, wr, md, hh, hmd, hp, rfl, hoff, hcell, rfl⟩ := setCells_some hs
 obtain ⟨hwr, _, hk⟩ := h.ok id _ hh
 obtain ⟨hr, hrw⟩ := hk cs.length m hwr (Nat.le_refl _) hm
 obtain ⟨harr, hmo, hbase, c, hc, hcap⟩ := hrw hmd
 have hcsz : cs.length ≤ c.size := by
  rcases Nat.eq_zero_or_pos cs.length with h0 | h0
  ·omega
  ·obtain ⟨v', hv', _⟩ := hr (cs.length - 1) (cs[cs.length - 1]'(by omega)) (by omega) (List.getElem?_eq_getElem (by omega))
   simp [World.cell?, Place.at_, hc, hmo] at hv'
   have := (Array.getElem?_eq_some_iff.1 hv').1
   omega
 have hvl : vs'.length = vs.length := hv.1.symm
 have hrun := run_storeCells_at P m.b off e vs' 0 c w hc (by omega) (hv.oneCell hcell)
 simp only [Nat.add_zero] at hrun
 have hat : m.at_ off = ⟨m.b, off, none⟩ := by simp [Place.at_, hmo]
 refine ⟨_, by rw [hat]; exact hrun, ?_⟩
 have hnew := setRow_heap w m.b c (c.toList.take off ++ vs' ++ c.toList.drop (off + vs'.length)).toArray e _ hc
 have hblt : m.b < w.heap.size := (h.dom id _ m hm).2
 refine h.update (o := .cells cs e wr md) (L0 := cs.length) (m := m) hh hmd ⟨hwr, Nat.le_refl _⟩ hm (Sub.refl μ) (fun _ _ _ => rfl) (fun b _ hb => setRow_other w m.b b _ hb) hbase (by rw [setRow_size]; exact Nat.le_refl _) rfl rfl rfl ?_ ?_ ?_ ?_ (by intro h; cases h)
 ·refine ⟨by rw [length_putList hoff]; exact Nat.le_refl _, ⟨m, by rw [length_putList hoff]; exact hm⟩, fun L' m' h1 h2 h3 => ?_⟩
  rw [length_putList hoff] at h2
  have hLe : L' = cs.length := by omega
  subst hLe
  rw [hm] at h3; cases h3
  refine ⟨fun i x hi hx => ?_, fun _ => ⟨harr, hmo, hbase, _, hnew, fun s hts => ?_⟩⟩
  ·rw [getElem?_putList hoff] at hx
   have hsz2 : off + vs'.length ≤ c.toList.length := by simp; omega
   have hcell2 : (w.setRow m.b (c.toList.take off ++ vs' ++ c.toList.drop (off + vs'.length)).toArray).cell? (m.at_ i) = (putList c.toList off vs')[i]? := by
    unfold World.cell?
    simp only [Place.at_]
    rw [hnew]
    simp [hmo, putList]
   rw [hcell2, getElem?_putList hsz2, hvl]
   split at hx
   ·rename_i hi2
    rw [if_pos hi2]
    exact hv.get hx
   ·rename_i hi2
    rw [if_neg hi2]
    obtain ⟨v', hv', hvr⟩ := hr i x (by omega) hx
    refine ⟨v', ?_, hvr⟩
    simpa [World.cell?, Place.at_, hc, hmo] using hv'
  ·have : (c.toList.take off ++ vs' ++ c.toList.drop (off + vs'.length)).toArray.size = c.size := by
    simp only [List.size_toArray, List.length_append, List.length_take, List.length_drop, Array.length_toList]
    omega
   rw [this]; exact hcap s hts
 ·intro K p hl hp2
  simp only [lives, length_putList hoff] at hl
  have hK : K = cs.length := by omega
  subst hK
  exact .inl ⟨cs.length, m, ⟨hwr, Nat.le_refl _⟩, hm, by rw [hm] at hp2; cases hp2; rfl⟩
 ·intro K p hp2
  rw [setRow_size]
  exact (h.dom id K p hp2).2
 ·intro K p cs2 e2 wr2 md2 hp2 ho2
  cases ho2
  rw [length_putList hoff]
  exact h.ver id K p cs e wr md hp2 hh

theorem cellsOK {P : Program} {w0 w : World} {μ μ2 : PMap} {H : AHeap} (h : Sim P w0 μ H w) (cs : List Value) (e : TypeId) (md : OMode) (c : Array Value) (cap : Nat) (arr : Bool) (harr : arr = !md.isRow)
  (hc : ∀ (i : Nat) (x : Value), cs[i]? = some x → ∃ v', c[i]? = some v' ∧ VRel μ x v') (hcap : ∀ s, tsize P e = some s → cap * s ≤ c.size) (hsub : Sub μ μ2) (tid : Nat)
  (hat : μ2 tid cs.length = some ⟨w.heap.size, 0, cap, arr⟩) : ObjOK P w0 (w.alloc (.cells c e)) μ2 tid (.cells cs e cs.length md) := by
 have hnew : (w.alloc (.cells c e)).heap[w.heap.size]? = some (.cells c e (0, 0)) := heap_alloc_new w _
 refine ⟨Nat.le_refl _, ⟨_, hat⟩, fun L m h1 h2 h3 => ?_⟩
 have hL : L = cs.length := by omega
 subst hL
 rw [hat] at h3; cases h3
 refine ⟨fun i x hi hx => ?_, fun _ => ⟨harr, rfl, h.below.size, c, hnew, hcap⟩⟩
 obtain ⟨v', hv, hr⟩ := hc i x hx
 refine ⟨v', ?_, hr.mono hsub⟩
 unfold World.cell?
 simp only [Place.at_]
 rw [hnew]
 simpa using hv

/-- New cells. -/
theorem Sim.newCells {P : Program} {w0 w : World} {μ : PMap} {H : AHeap} (h : Sim P w0 μ H w) (cs : List Value) (e : TypeId) (md : OMode) (c : Array Value) (cap : Nat) (arr : Bool) (harr : arr = !md.isRow)
  (hc : ∀ (i : Nat) (x : Value), cs[i]? = some x → ∃ v', c[i]? = some v' ∧ VRel μ x v') (hcap : ∀ s, tsize P e = some s → cap * s ≤ c.size) :
  Sim P w0 (ext1 μ H.length cs.length ⟨w.heap.size, 0, cap, arr⟩) (H ++ [.cells cs e cs.length md]) (w.alloc (.cells c e)) := by
 refine h.new _ _ _ _ rfl (by intro h; cases h) (fun K hK => ?_) ?_ (cellsOK h cs e md c cap arr harr hc hcap (ext1_sub (h.fresh _)) _ (ext1_at _ _ _ _))
 ·simp only [lives] at hK
  omega
 ·intro cs' e' wr' md' ho
  cases ho
  exact Nat.le_refl _

end Go.Proofs.Ythjkodbinkiifaa.Am
namespace Go.Proofs.Ythjkodbinkiifaa.Am
open Go Go.RowKit

theorem apure_run (P : Program) {α : Type} (s : Sem α) : ∀ {a : α}, apure P s = some a → ∀ w, s.run P w = .ok a w := by
 induction s with
 | pure a => intro b h w; simp [apure] at h; simp [Sem.run, h]
 | program k ih => intro b h w; simp only [apure] at h; simpa [Sem.run] using ih P h w
 | mark m k ih => intro b h w; simp only [apure] at h; simpa [Sem.run] using ih h w
 | _ => intro b h; simp [apure] at h

def Quiet (P : Program) (μ : PMap) (w : World) (v : Value) (s : Sem Value) : Prop := ∃ v', s.run P w = .ok v' w ∧ VRel μ v v'
def Does (P : Program) (w0 : World) (μ : PMap) (w : World) (v : Value) (H' : AHeap) (s : Sem Value) : Prop :=
 ∃ μ' v' w', s.run P w = .ok v' w' ∧ Sub μ μ' ∧ VRel μ' v v' ∧ Sim P w0 μ' H' w'
def Acts (P : Program) (w0 : World) (μ : PMap) (w : World) (H' : AHeap) (s : Sem Unit) : Prop :=
 ∃ μ' w', s.run P w = .ok () w' ∧ Sub μ μ' ∧ Sim P w0 μ' H' w'

section
variable {P : Program} {w0 w : World} {μ : PMap} {H H' : AHeap}

theorem Quiet.does {v : Value} {s : Sem Value} (h : Quiet P μ w v s) (hS : Sim P w0 μ H w) : Does P w0 μ w v H s :=
 let ⟨v', h1, h2⟩ := h
 ⟨μ, v', w, h1, Sub.refl μ, h2, hS⟩

theorem tagg_some {t : TypeId} {b : Bool} (h : tagg P t = some b) : ∃ d, P.underlying t = some d ∧ descAgg d = b := map_some' h
theorem tsize_some {t : TypeId} {n : Nat} (h : tsize P t = some n) : ∃ i, P.info? t = some i ∧ i.size = n := map_some' h
theorem tbytes_some {t : TypeId} {n : Nat} (h : tbytes P t = some n) : ∃ i, P.info? t = some i ∧ i.bytes = n := map_some' h
theorem tzero_some {t : TypeId} {z : Value} (h : tzero P t = some z) : ∃ i, P.info? t = some i ∧ i.zero = some z := bind_some' h
theorem tslice_some {t e : TypeId} (h : tslice P t = some e) : P.underlying t = some (.slice e) := by
 obtain ⟨d, h1, h2⟩ := bind_some' h
 cases d <;> simp [descSlice] at h2
 subst h2; exact h1

theorem run_isAgg {t : TypeId} {b : Bool} (h : tagg P t = some b) : (isAgg t).run P w = .ok b w := by
 obtain ⟨d, h1, h2⟩ := tagg_some h
 unfold isAgg
 simp only [Sem.run_bind, run_underlying h1, Result.andThen_ok]
 cases d <;> simp [descAgg] at h2 <;> subst h2 <;> rfl
theorem run_sizeOf {t : TypeId} {n : Nat} (h : tsize P t = some n) : (sizeOf t).run P w = .ok n w := by
 obtain ⟨i, h1, h2⟩ := tsize_some h
 simp [sizeOf, typeInfo, h1, h2]
theorem run_typeInfo {t : TypeId} {i : TypeInfo} (h : P.info? t = some i) : (typeInfo t).run P w = .ok i w := by simp [typeInfo, h]
theorem run_zeroValue {t : TypeId} {z : Value} (h : tzero P t = some z) : (zeroValue t).run P w = .ok z w := by
 obtain ⟨i, h1, h2⟩ := tzero_some h
 simp [zeroValue, typeInfo, h1, h2]

/-! ### Numbers, strings, comparisons -/
theorem abinInt_run {op : BinOp} {k k' : IntKind} {a b : Int} {v : Value} (h : abinInt op k a k' b = some v) (t : TypeId) : (binOp op t (.int k a) (.int k' b)).run P w = .ok v w ∧ plain0 v = true := by
 cases op <;> simp only [abinInt] at h <;> split at h <;> (try cases h) <;> rename_i hc <;>
  (try obtain ⟨hc, hb⟩ := hc) <;> (try subst hc) <;> simp_all [binOp, Op.intArith, Op.intDiv, Op.intBits, Op.intCmp, Op.shift, plain0] <;> omega

theorem abinStr_run {op : BinOp} {a b : ByteArray} {v : Value} (h : abinStr op a b = some v) (t : TypeId) : (binOp op t (.string a) (.string b)).run P w = .ok v w ∧ plain0 v = true := by
 cases op <;> simp only [abinStr] at h <;> (try split at h) <;> (try cases h) <;> simp_all [binOp, Op.stringOp, plain0]
 all_goals omega

theorem equal_succ (t : TypeId) (x y : Value) : Op.equal t x y = Op.equalIn (9999 + 1) t x y := rfl

/-- The two tests, once equality is known. -/
structure EqRun (P : Program) (w : World) (t : TypeId) (x y : Value) (b : Bool) : Prop where
 guard : ∀ op ox oy, (eqGuard op t ox oy x y).run P w = .ok () w
 eql : (binOp .eql t x y).run P w = .ok (.bool b) w
 neq : (binOp .neq t x y).run P w = .ok (.bool (!b)) w

theorem EqRun.mk' {t : TypeId} {x y : Value} {b : Bool} (hg : ∀ op ox oy, (eqGuard op t ox oy x y).run P w = .ok () w)
  (h : (Op.equal t x y).run P w = .ok b w) (h1 : binOp .eql t x y = (do pure (.bool (← Op.equal t x y)))) (h2 : binOp .neq t x y = (do pure (.bool (!(← Op.equal t x y))))) : EqRun P w t x y b :=
 ⟨hg, by rw [h1]; simp [h], by rw [h2]; simp [h]⟩

theorem eq_bool {t : TypeId} (hu : P.underlying t = some .bool) (a b : Bool) : EqRun P w t (.bool a) (.bool b) (a == b) :=
 .mk' (fun _ _ _ => by simp [eqGuard_at_bool]) (by rw [equal_succ]; unfold Op.equalIn; simp only [Sem.run_bind, run_underlying hu, Result.andThen_ok]; rfl) rfl rfl
theorem eq_ptr_nil {t e : TypeId} (hu : P.underlying t = some (.pointer e)) (b : Option Addr) : EqRun P w t (.pointer none) (.pointer b) b.isNone :=
 .mk' (fun _ _ _ => by simp [eqGuard_at_pointer]) (by rw [equal_succ]; unfold Op.equalIn; simp only [Sem.run_bind, run_underlying hu, Result.andThen_ok]; rfl) rfl rfl
theorem eq_ptr_some {t e : TypeId} (hu : P.underlying t = some (.pointer e)) (a : Addr) : EqRun P w t (.pointer (some a)) (.pointer none) false :=
 .mk' (fun _ _ _ => by simp [eqGuard_at_pointer]) (by rw [equal_succ]; unfold Op.equalIn; simp only [Sem.run_bind, run_underlying hu, Result.andThen_ok]; rfl) rfl rfl
theorem eq_slice_nil {t e : TypeId} (hu : P.underlying t = some (.slice e)) (n c : Nat) (b : Option Addr) (n' c' : Nat) : EqRun P w t (.slice none n c) (.slice b n' c') b.isNone :=
 .mk' (fun _ _ _ => by simp [eqGuard_at_slice]) (by rw [equal_succ]; unfold Op.equalIn; simp only [Sem.run_bind, run_underlying hu, Result.andThen_ok]; rfl) rfl rfl
theorem eq_slice_some {t e : TypeId} (hu : P.underlying t = some (.slice e)) (a : Addr) (n c : Nat) (n' c' : Nat) : EqRun P w t (.slice (some a) n c) (.slice none n' c') false :=
 .mk' (fun _ _ _ => by simp [eqGuard_at_slice]) (by rw [equal_succ]; unfold Op.equalIn; simp only [Sem.run_bind, run_underlying hu, Result.andThen_ok]; rfl) rfl rfl
theorem eq_map_nil {t k e : TypeId} (hu : P.underlying t = some (.map k e)) (b : Option Nat) : EqRun P w t (.map none) (.map b) b.isNone :=
 .mk' (fun _ _ _ => by simp [eqGuard_at_map]) (by rw [equal_succ]; unfold Op.equalIn; simp only [Sem.run_bind, run_underlying hu, Result.andThen_ok]; rfl) rfl rfl
theorem eq_map_some {t k e : TypeId} (hu : P.underlying t = some (.map k e)) (a : Nat) : EqRun P w t (.map (some a)) (.map none) false :=
 .mk' (fun _ _ _ => by simp [eqGuard_at_map]) (by rw [equal_succ]; unfold Op.equalIn; simp only [Sem.run_bind, run_underlying hu, Result.andThen_ok]; rfl) rfl rfl
theorem eq_func_nil {t : TypeId} {p r : Array TypeId} {v : Bool} (hu : P.underlying t = some (.func p r v)) : EqRun P w t .nilFunc .nilFunc true :=
 .mk' (fun _ _ _ => by simp [eqGuard_at_nilFunc]) (by rw [equal_succ]; unfold Op.equalIn; simp only [Sem.run_bind, run_underlying hu, Result.andThen_ok]; rfl) rfl rfl
theorem eq_func_l {t : TypeId} {p r : Array TypeId} {v : Bool} (hu : P.underlying t = some (.func p r v)) (f : Fn) (a c : Array Value) : EqRun P w t .nilFunc (.func f a c) false :=
 .mk' (fun _ _ _ => by simp [eqGuard_at_nilFunc]) (by rw [equal_succ]; unfold Op.equalIn; simp only [Sem.run_bind, run_underlying hu, Result.andThen_ok]; rfl) rfl rfl
theorem eq_func_r {t : TypeId} {p r : Array TypeId} {v : Bool} (hu : P.underlying t = some (.func p r v)) (f : Fn) (a c : Array Value) : EqRun P w t (.func f a c) .nilFunc false :=
 .mk' (fun _ _ _ => by simp [eqGuard_at_func]) (by rw [equal_succ]; unfold Op.equalIn; simp only [Sem.run_bind, run_underlying hu, Result.andThen_ok]; rfl) rfl rfl
theorem eq_agg {t : TypeId} {xs ys : Array Value} {b : Bool} (hg : P.eqGuardType P.depth t = false) (h : (Op.equal t (.agg xs) (.agg ys)).run P w = .ok b w) : EqRun P w t (.agg xs) (.agg ys) b :=
 .mk' (fun op _ _ => by unfold eqGuard; cases op <;> simp [hg]) h rfl rfl

theorem VRel.pointer_inv {b : Option Addr} {y' : Value} (h : VRel μ (.pointer b) y') : ∃ b', y' = .pointer b' ∧ b'.isNone = b.isNone := by
 cases h with
 | base v hp => exact ⟨_, rfl, rfl⟩
 | ptr => exact ⟨_, rfl, rfl⟩
 | gptr => exact ⟨_, rfl, rfl⟩
theorem VRel.slice_at {b : Option Addr} {n c : Nat} {y' : Value} (h : VRel μ (.slice b n c) y') : ∃ b' c', y' = .slice b' n c' ∧ b'.isNone = b.isNone ∧ (∀ a, b' = some a → n = 0 ∨ ∃ g o, a = ⟨g, o, none⟩) := by
 cases h with
 | base v hp =>
  cases b with
  | none => exact ⟨_, _, rfl, rfl, fun a e => by cases e⟩
  | some a => simp [plain0] at hp
 | slice => exact ⟨_, _, rfl, rfl, fun a e => by cases e; exact .inr ⟨_, _, rfl⟩⟩
 | empty => exact ⟨_, _, rfl, rfl, fun a e => .inl rfl⟩
 | lost => exact ⟨_, _, rfl, rfl, fun a e => .inl rfl⟩
theorem VRel.slice_any {b : Option Addr} {n c : Nat} {y' : Value} (h : VRel μ (.slice b n c) y') : ∃ b' c', y' = .slice b' n c' ∧ b'.isNone = b.isNone :=
 let ⟨b', c', h1, h2, _⟩ := h.slice_at
 ⟨b', c', h1, h2⟩
theorem VRel.map_any {b : Option Nat} {y' : Value} (h : VRel μ (.map b) y') : ∃ b', y' = .map b' ∧ b'.isNone = b.isNone := by
 cases h with
 | base v hp => exact ⟨_, rfl, rfl⟩
 | map => exact ⟨_, rfl, rfl⟩
theorem VRel.func_any {f : Fn} {a c : Array Value} {y' : Value} (h : VRel μ (.func f a c) y') : ∃ f' a' c', y' = .func f' a' c' := by
 cases h with
 | base v hp => exact ⟨_, _, _, rfl⟩
 | func => exact ⟨_, _, _, rfl⟩

theorem aeq_run {t : TypeId} {x y x' y' : Value} {b : Bool} (h : aeq P t x y = some b) (hx : VRel μ x x') (hy : VRel μ y y') : EqRun P w t x' y' b := by
 unfold aeq at h
 split at h
 ·rename_i hu
  rw [hx.bool_inv, hy.bool_inv]
  simp only [Option.some.injEq] at h
  subst h
  exact eq_bool hu _ _
 ·rename_i hu
  obtain ⟨b', rfl, hb'⟩ := hy.pointer_inv
  rw [hx.plain_inv rfl]
  simp only [Option.some.injEq] at h
  subst h
  rw [← hb']
  exact eq_ptr_nil hu _
 ·rename_i hu
  obtain ⟨b', rfl, hb'⟩ := hx.pointer_inv
  rw [hy.plain_inv rfl]
  simp only [Option.some.injEq] at h
  subst h
  cases b' with
  | none => cases hb'
  | some a => exact eq_ptr_some hu a
 ·rename_i hu
  obtain ⟨b1, c1, rfl, hb1⟩ := hx.slice_any
  obtain ⟨b2, c2, rfl, hb2⟩ := hy.slice_any
  simp only [Option.some.injEq] at h
  subst h
  cases b1 with
  | none => rw [← hb2]; exact eq_slice_nil hu _ _ _ _ _
  | some a => cases hb1
 ·rename_i hu
  obtain ⟨b1, c1, rfl, hb1⟩ := hx.slice_any
  obtain ⟨b2, c2, rfl, hb2⟩ := hy.slice_any
  simp only [Option.some.injEq] at h
  subst h
  cases b2 with
  | some a => cases hb2
  | none =>
   cases b1 with
   | none => cases hb1
   | some a => exact eq_slice_some hu _ _ _ _ _
 ·rename_i hu
  obtain ⟨b', rfl, hb'⟩ := hy.map_any
  rw [hx.plain_inv rfl]
  simp only [Option.some.injEq] at h
  subst h
  rw [← hb']
  exact eq_map_nil hu _
 ·rename_i hu
  obtain ⟨b', rfl, hb'⟩ := hx.map_any
  rw [hy.plain_inv rfl]
  simp only [Option.some.injEq] at h
  subst h
  cases b' with
  | none => cases hb'
  | some a => exact eq_map_some hu a
 ·rename_i hu
  rw [hx.plain_inv rfl, hy.plain_inv rfl]
  simp only [Option.some.injEq] at h
  subst h
  exact eq_func_nil hu
 ·rename_i hu
  obtain ⟨f', a', c', rfl⟩ := hy.func_any
  rw [hx.plain_inv rfl]
  simp only [Option.some.injEq] at h
  subst h
  exact eq_func_l hu _ _ _
 ·rename_i hu
  obtain ⟨f', a', c', rfl⟩ := hx.func_any
  rw [hy.plain_inv rfl]
  simp only [Option.some.injEq] at h
  subst h
  exact eq_func_r hu _ _ _
 ·split at h
  ·rename_i hc
   simp only [Bool.and_eq_true, Bool.not_eq_true'] at hc
   rw [hx.plain1_inv hc.1.1, hy.plain1_inv hc.1.2]
   exact eq_agg hc.2 (apure_run P _ h w)
  ·cases h
 ·cases h

theorem abin_sound {op : BinOp} {t : TypeId} {x y x' y' v : Value} (h : abin P op t x y = some v) (hx : VRel μ x x') (hy : VRel μ y y') (ox oy : Operand) :
  Quiet P μ w v (do eqGuard op t ox oy x' y'; binOp op t x' y') := by
 unfold abin at h
 split at h
 ·rw [hx.int_inv, hy.int_inv]
  obtain ⟨h1, h2⟩ := abinInt_run (P := P) (w := w) h t
  exact ⟨v, by simp [eqGuard_at_int, h1], .base v h2⟩
 ·rw [hx.string_inv, hy.string_inv]
  obtain ⟨h1, h2⟩ := abinStr_run (P := P) (w := w) h t
  exact ⟨v, by simp [eqGuard_at_string, h1], .base v h2⟩
 ·split at h
  ·obtain ⟨b, hb, rfl⟩ := map_some' h
   have r := aeq_run (w := w) hb hx hy
   exact ⟨.bool b, by rw [Sem.run_bind, r.guard]; exact r.eql, .base _ rfl⟩
  ·obtain ⟨b, hb, rfl⟩ := map_some' h
   have r := aeq_run (w := w) hb hx hy
   exact ⟨.bool (!b), by rw [Sem.run_bind, r.guard]; exact r.neq, .base _ rfl⟩
  ·cases h

theorem aun_sound {op : UnOp} {x x' v : Value} (h : aun op x = some v) (hx : VRel μ x x') : Quiet P μ w v (Op.unary op x') := by
 unfold aun at h
 split at h
 ·rw [hx.bool_inv]; cases h; exact ⟨_, rfl, .base _ rfl⟩
 ·rw [hx.int_inv]; cases h; exact ⟨_, rfl, .base _ rfl⟩
 ·rw [hx.int_inv]; cases h; exact ⟨_, rfl, .base _ rfl⟩
 ·cases h

theorem bytesOfCells_inv : ∀ {l : List Value} {b : List UInt8}, bytesOfCells l = some b → ∃ ns : List Int, l = ns.map (Value.int .u8) ∧ b = ns.map fun n => UInt8.ofNat n.toNat
 | [], b, h => by simp [bytesOfCells] at h; exact ⟨[], by simp [h]⟩
 | v :: r, b, h => by
  cases v with
  | int k n =>
   cases k <;> simp [bytesOfCells] at h
   obtain ⟨b', hb', rfl⟩ := h
   obtain ⟨ns, rfl, rfl⟩ := bytesOfCells_inv hb'
   exact ⟨n :: ns, rfl, rfl⟩
  | _ => simp [bytesOfCells] at h

theorem run_convert_bytes_empty {P : Program} (w : World) (src e : TypeId) (hs : P.underlying src = some (.slice e)) (he : P.underlying e = some (.int .u8)) (a : Addr) (c : Nat) :
  ∀ dst, P.underlying dst = some .string → (convert src dst (.slice (some a) 0 c)).run P w = .ok (.string (strOfNums [])) w := by
 intro dst hd
 have hl : (loadCells a 0).run P w = .ok (([] : List Int).map (Value.int .u8)).toArray w := by
  have := run_loadCells_list (P := P) w a [] (fun j v hj => by simp at hj)
  simpa using this
 rw [run_convert_bytes_string w src dst e _ 0 c hs he hd, run_bytesToString w _ 0 c [] hl]
 rfl

theorem cellsAt_sound (hS : Sim P w0 μ H w) {s : Nat} {x x' : Value} {cs : List Value} (h : cellsAt s x H = some cs) (hx : VRel μ x x') :
  ∃ a n c a' c', x = .slice a n c ∧ x' = .slice a' n c' ∧ cs.length = n * s ∧ ∃ cs', LRel μ cs cs' ∧
   (∀ b, a' = some b → (n = 0 ∨ ∃ g o, b = ⟨g, o, none⟩) ∧ ∀ j v, cs'[j]? = some v → w.cell? (b.add j) = some v) ∧ (a' = none → n = 0) := by
 unfold cellsAt at h
 split at h
 ·rw [hx.plain_inv rfl]
  cases h
  exact ⟨none, 0, 0, none, 0, rfl, rfl, by simp, [], LRel.nil μ, (fun _ e => by cases e), fun _ => rfl⟩
 ·cases h
  obtain ⟨a', c', rfl, hn, hat⟩ := hx.slice_at
  exact ⟨_, 0, 0, a', c', rfl, rfl, by simp, [], LRel.nil μ, (fun b e => ⟨hat b e, fun j v hv => by simp at hv⟩), fun e => rfl⟩
 ·rename_i id off L n c
  obtain ⟨m, c', hm, hc, hcap, rfl⟩ := hx.slice_inv
  obtain ⟨hl, cs', hr, hcell⟩ := getCells_sound hS h hm
  exact ⟨_, n, c, _, c', rfl, rfl, hl, cs', hr, (fun b e => by cases e; exact ⟨.inr ⟨_, _, rfl⟩, hcell⟩), fun e => by cases e⟩
 ·cases h

theorem aconv_sound (hS : Sim P w0 μ H w) {src dst : TypeId} {x x' v : Value} (h : aconv P src dst x H = some v) (hx : VRel μ x x') : Quiet P μ w v (convert src dst x') := by
 unfold aconv at h
 split at h
 ·rename_i hs hd
  rw [hx.int_inv]; cases h
  exact ⟨_, by simp [convert, run_underlying hs, run_underlying hd, Conv.intToInt], .base _ rfl⟩
 ·rename_i hs hd
  rw [hx.int_inv]; cases h
  exact ⟨_, by simp [convert, run_underlying hs, run_underlying hd, Conv.intToString], .base _ rfl⟩
 ·rename_i hs hd
  rw [hx.string_inv]; cases h
  exact ⟨_, by simp [convert, run_underlying hs, run_underlying hd], .base _ rfl⟩
 ·rename_i e hs hd _ _
  split at h
  ·rename_i he
   obtain ⟨cs, hcs, h⟩ := bind_some' h
   obtain ⟨b, hb, rfl⟩ := map_some' h
   obtain ⟨ns, rfl, rfl⟩ := bytesOfCells_inv hb
   obtain ⟨a, n, c, a', c', rfl, rfl, hl, cs', hr, hcell, hnil⟩ := cellsAt_sound hS hcs hx
   have hn : ns.length = n := by simpa using hl
   cases a' with
   | none =>
    have hn0 := hnil rfl
    have hns : ns = [] := List.eq_nil_of_length_eq_zero (by omega)
    subst hns
    exact ⟨_, run_convert_bytes_nil w src e hs he _ _ dst hd, .base _ rfl⟩
   | some ad =>
    have hcs' : cs' = ns.map (Value.int .u8) := by
     apply List.ext_getElem?
     intro i
     cases hi : (ns.map (Value.int .u8))[i]? with
     | none => rw [List.getElem?_eq_none_iff] at hi ⊢; rw [← hr.1]; exact hi
     | some y =>
      obtain ⟨z, hz, hzr⟩ := hr.get hi
      have : ∃ k, y = .int .u8 k := by
       rw [List.getElem?_map] at hi
       obtain ⟨k, _, rfl⟩ := map_some' hi
       exact ⟨k, rfl⟩
      obtain ⟨k, rfl⟩ := this
      rw [hz, hzr.int_inv]
    subst hcs'
    obtain ⟨hz | ⟨g, o, rfl⟩, hcell⟩ := hcell ad rfl
    ·subst hz
     have hns : ns = [] := List.eq_nil_of_length_eq_zero (by omega)
     subst hns
     exact ⟨_, run_convert_bytes_empty w src e hs he _ _ dst hd, .base _ rfl⟩
    refine ⟨_, run_convert_bytes_arg w src _ hs he g o n c' ns hn (fun i hi => ?_) dst hd, .base _ rfl⟩
    rw [← Addr.add_lit]
    exact hcell i _ (by simp [show i < ns.length by omega])
  ·cases h
 ·cases h
end
end Go.Proofs.Ythjkodbinkiifaa.Am
namespace Go.Proofs.Ythjkodbinkiifaa.Am
open Go Go.RowKit
section
variable {P : Program} {w0 w : World} {μ : PMap} {H H' : AHeap}

theorem alen_sound (hS : Sim P w0 μ H w) {t ty : TypeId} {x x' v : Value} (h : alen P t x H = some v) (hx : VRel μ x x') : Quiet P μ w v (Builtin.len_ #[t] ty #[x']) := by
 unfold alen at h
 split at h
 ·rename_i hu; rw [hx.string_inv]; cases h
  exact ⟨_, by simp [Builtin.len_, run_underlying hu, goInt], .base _ rfl⟩
 ·rename_i hu; cases h
  exact ⟨_, by simp [Builtin.len_, run_underlying hu, goInt], .base _ rfl⟩
 ·rename_i hu
  obtain ⟨b', c', rfl, _⟩ := hx.slice_any
  cases h
  exact ⟨_, by simp [Builtin.len_, run_underlying hu, goInt], .base _ rfl⟩
 ·rename_i hu; rw [hx.plain_inv rfl]; cases h
  exact ⟨_, by simp [Builtin.len_, run_underlying hu, goInt], .base _ rfl⟩
 ·rename_i hu
  split at h
  ·rename_i es he
   cases h
   obtain ⟨m, hm, rfl⟩ := hx.map_inv
   obtain ⟨m2, hm2, _, es', clock, hh, hsz, _⟩ := hS.ok _ _ he
   rw [hm] at hm2; cases hm2
   refine ⟨.int .i64 es.length, ?_, .base _ rfl⟩
   simp [Builtin.len_, run_underlying hu, goInt, getObj, Sem.run, hh, hsz]
  ·cases h
 ·cases h

theorem afieldAddr_sound {s : TypeId} {x x' v : Value} {f : Nat} (h : afieldAddr P s x f = some v) (hx : VRel μ x x') : Quiet P μ w v (Instr.fieldAt s x' f) := by
 unfold afieldAddr at h
 split at h
 ·rename_i fs id off L hu
  obtain ⟨fd, hf, h⟩ := bind_some' h
  obtain ⟨n, hn, h⟩ := bind_some' h
  split at h
  ·cases h
  ·rename_i hn0
   cases h
   obtain ⟨m, hm, rfl⟩ := hx.ptr_inv
   refine ⟨.pointer (some (m.at_ (off + fd.offset))), ?_, .ptr id _ L m hm⟩
   simp [Instr.fieldAt, run_underlying hu, hf, Instr.sureAddr, fieldPlace, run_sizeOf hn, hn0, Place.at_, Addr.add_lit, Nat.add_assoc]
 ·cases h

theorem aindexAddr_sound {t : TypeId} {x x' i i' v : Value} (h : aindexAddr P t x i = some v) (hx : VRel μ x x') (hi : VRel μ i i') : Quiet P μ w v (Instr.indexAt t x' i') := by
 unfold aindexAddr at h
 split at h
 ·rename_i e id off L len cap k n hu
  obtain ⟨s, hs, h⟩ := bind_some' h
  split at h
  ·rename_i hc
   cases h
   obtain ⟨m, c', hm, _, _, rfl⟩ := hx.slice_inv
   rw [hi.int_inv]
   refine ⟨.pointer (some (m.at_ (off + n.toNat * s))), ?_, .ptr id _ L m hm⟩
   simp [Instr.indexAt, asIntOf, run_underlying hu, hc.1, hc.2, run_sizeOf hs, Place.at_, Addr.add_lit, Nat.add_assoc]
  ·cases h
 ·rename_i len e id off L k n hu
  obtain ⟨s, hs, h⟩ := bind_some' h
  split at h
  ·rename_i hc
   cases h
   obtain ⟨m, hm, rfl⟩ := hx.ptr_inv
   rw [hi.int_inv]
   refine ⟨.pointer (some (m.at_ (off + n.toNat * s))), ?_, .ptr id _ L m hm⟩
   simp [Instr.indexAt, asIntOf, run_underlying hu, Instr.sureAddr, hc.1, hc.2, run_sizeOf hs, Place.at_, Addr.add_lit, Nat.add_assoc]
  ·cases h
 ·rename_i len e g off k n hu
  obtain ⟨s, hs, h⟩ := bind_some' h
  split at h
  ·rename_i hc
   cases h
   rw [hx.gptr_inv, hi.int_inv]
   refine ⟨.pointer (some ⟨g, off + n.toNat * s, none⟩), ?_, .gptr g _⟩
   simp [Instr.indexAt, asIntOf, run_underlying hu, Instr.sureAddr, hc.1, hc.2, run_sizeOf hs, Addr.add_lit]
  ·cases h
 ·cases h

theorem apart_sound {t : TypeId} {cs : Array Value} {cs' : Array Value} {off : Nat} {v : Value} (h : apart P t cs.toList off = some v) (hr : LRel μ cs.toList cs'.toList) :
  ∃ v', (part t cs' off).run P w = .ok v' w ∧ VRel μ v v' := by
 unfold apart at h
 split at h
 ·rename_i n ha hn
  split at h
  ·rename_i hc
   cases h
   refine ⟨.agg (cs'.extract off (off + n)), by simp [part, run_isAgg ha, run_sizeOf hn], ?_⟩
   have : VRel μ (.agg ((cs.toList.drop off).take n).toArray) (.agg ((cs'.toList.drop off).take n).toArray) := VRel.mk_agg ((hr.drop off).take n)
   have e : ((cs'.toList.drop off).take n).toArray = cs'.extract off (off + n) := by
    apply Array.ext'
    simp [List.extract_eq_take_drop]
   rw [e] at this
   exact this
  ·cases h
 ·rename_i n ha hn
  split at h
  ·rename_i hc
   cases h
   have hg : cs.toList[off]? = some (cs.toList.getD off undef) := by simp [List.getD, List.getElem?_eq_getElem hc]
   obtain ⟨y, hy, hv⟩ := hr.get hg
   refine ⟨y, ?_, hv⟩
   have hy' : cs'[off]? = some y := by simpa using hy
   simp [part, run_isAgg ha, hy']
  ·cases h
 ·cases h

theorem afield_sound {t : TypeId} {x x' v : Value} {f : Nat} (h : afield P t x f = some v) (hx : VRel μ x x') : Quiet P μ w v (Instr.field t x' f) := by
 unfold afield at h
 split at h
 ·rename_i fs cs hu
  obtain ⟨fd, hf, h⟩ := bind_some' h
  obtain ⟨cs', rfl, hr⟩ := hx.agg_inv
  obtain ⟨v', h1, h2⟩ := apart_sound (w := w) h hr
  exact ⟨v', by simp [Instr.field, run_underlying hu, hf, asAgg, h1], h2⟩
 ·cases h

theorem getBang (s : ByteArray) (i : Nat) (h : i < s.size) : s.get! i = s[i] := by
 cases s with
 | mk d =>
  show d[i]! = d[i]
  exact getElem!_pos d i h

theorem aindex_sound {t : TypeId} {x x' i i' v : Value} (h : aindex P t x i = some v) (hx : VRel μ x x') (hi : VRel μ i i') : Quiet P μ w v (Instr.index t x' i') := by
 unfold aindex at h
 split at h
 ·rename_i s k n hu
  split at h
  ·rename_i hc
   cases h
   rw [hx.string_inv, hi.int_inv]
   have hlt : n.toNat < s.size := by omega
   refine ⟨_, ?_, .base _ rfl⟩
   have hg : s[n.toNat]? = some (s.get! n.toNat) := by
    rw [getElem?_pos s n.toNat hlt]
    congr 1
    exact (getBang s n.toNat hlt).symm
   simp [Instr.index, asIntOf, run_underlying hu, hc.1, hg]
  ·cases h
 ·rename_i len e cs k n hu
  obtain ⟨z, hz, h⟩ := bind_some' h
  split at h
  ·rename_i hc
   obtain ⟨cs', rfl, hr⟩ := hx.agg_inv
   rw [hi.int_inv]
   obtain ⟨v', h1, h2⟩ := apart_sound (w := w) h hr
   exact ⟨v', by simp [Instr.index, asIntOf, run_underlying hu, hc.1, hc.2, run_sizeOf hz, h1], h2⟩
  ·cases h
 ·cases h

theorem aextract_sound {x x' v : Value} {i : Nat} (h : aextract x i = some v) (hx : VRel μ x x') : Quiet P μ w v (Instr.extract x' i) := by
 unfold aextract at h
 split at h
 ·rename_i vs
  have hg : vs.toList[i]? = some v := by
   split at h
   ·cases h
   ·exact h
  cases hx with
  | any => simp at hg
  | skipped =>
   cases i with
   | zero => simp at h
   | succ i => simp at hg
  | base v hp => simp [plain0] at hp
  | tuple cs cs' hs hr =>
   have hg : vs[i]? = some v := by simpa using hg
   have hi : i < cs'.size := by rw [← hs]; exact (Array.getElem?_eq_some_iff.1 hg).1
   exact ⟨cs'[i], by simp [Instr.extract, hi], hr i v _ hg (by simp [hi])⟩
 ·cases h

theorem amax_sound {x y x' y' v : Value} {ts : Array TypeId} {ty : TypeId} (h : amax x y = some v) (hx : VRel μ x x') (hy : VRel μ y y') : Quiet P μ w v (Builtin.max_ ts ty #[x', y']) := by
 unfold amax at h
 split at h
 ·rw [hx.int_inv, hy.int_inv]; cases h
  exact ⟨_, by simp [Builtin.max_, Builtin.max2, List.foldlM], .base _ rfl⟩
 ·cases h
theorem amin_sound {x y x' y' v : Value} {ts : Array TypeId} {ty : TypeId} (h : amin x y = some v) (hx : VRel μ x x') (hy : VRel μ y y') : Quiet P μ w v (Builtin.min_ ts ty #[x', y']) := by
 unfold amin at h
 split at h
 ·rw [hx.int_inv, hy.int_inv]; cases h
  exact ⟨_, by simp [Builtin.min_, Builtin.min2, List.foldlM], .base _ rfl⟩
 ·cases h

theorem aload_sound (hS : Sim P w0 μ H w) {t : TypeId} {p p' v : Value} (h : aload P t p H = some v) (hp : VRel μ p p') : Quiet P μ w v (Instr.loadAt t p') := by
 unfold aload at h
 split at h
 ·rename_i id off L
  obtain ⟨m, hm, rfl⟩ := hp.ptr_inv
  split at h
  ·rename_i n ha hn
   obtain ⟨cs, hcs, rfl⟩ := map_some' h
   obtain ⟨hl, cs', hr, hcell⟩ := getCells_sound hS hcs hm
   have hrun := run_loadCells_list (P := P) w (m.at_ off) cs' hcell
   rw [← hr.1, hl] at hrun
   exact ⟨.agg cs'.toArray, by simp [Instr.loadAt, Instr.sureAddr, loadVar, run_isAgg ha, run_sizeOf hn, hrun], VRel.mk_agg hr⟩
  ·rename_i n ha hn
   obtain ⟨cs, hcs, rfl⟩ := map_some' h
   obtain ⟨hl, cs', hr, hcell⟩ := getCells_sound hS hcs hm
   match cs, hl with
   | [c], _ =>
    obtain ⟨y, hy, hv⟩ := hr.get (i := 0) (x := c) rfl
    have hc := hcell 0 y hy
    rw [Addr.add_zero'] at hc
    exact ⟨y, by simp [Instr.loadAt, Instr.sureAddr, loadVar, run_isAgg ha, hc], hv⟩
  ·cases h
 ·rename_i g off
  rw [hp.gptr_inv]
  split at h
  ·rename_i n ha hn
   obtain ⟨cs, hk, hv⟩ := bind_some' h
   obtain ⟨hc, hpl⟩ := (hS.gl.below hS.below) g cs hk off v hv
   exact ⟨v, by simp [Instr.loadAt, Instr.sureAddr, loadVar, run_isAgg ha, hc], .base _ hpl⟩
  ·cases h
 ·cases h

theorem run_storeVar' {t : TypeId} {v' : Value} {a : Addr} {w' : World} {n : Nat} (hn : tsize P t = some n) (hl : v'.cells.size = n) (h : (storeCells a v'.cells.toList 0).run P w = .ok () w') :
  (storeVar t a v').run P w = .ok () w' := by
 simp [storeVar, run_sizeOf hn, hl, h]

theorem noTuple {v : Value} (h : (cellsOf v).all isCell = true) : ∀ cs, v ≠ .tuple cs := by
 rintro cs rfl
 simp [cellsOf, Value.cells, isCell] at h

theorem astore_sound (hS : Sim P w0 μ H w) {t : TypeId} {prot : Nat} {p p' v v' : Value} (h : astore P prot t p v H = some H') (hp : VRel μ p p') (hv : VRel μ v v') :
  Acts P w0 μ w H' (Instr.storeAt t p' v') := by
 unfold astore at h
 split at h
 ·rename_i id off L
  obtain ⟨m, hm, rfl⟩ := hp.ptr_inv
  split at h
  ·rename_i n hn
   split at h
   ·rename_i hl
    obtain ⟨_, _, _, _, _, _, _, _, _, hc, _⟩ := setCells_some h
    have hr := hv.cells hc (noTuple hc)
    obtain ⟨w', h1, h2⟩ := setCells_sound hS h hm hr
    refine ⟨μ, w', ?_, Sub.refl μ, h2⟩
    have hl' : v'.cells.size = n := by have := hr.1; simp [cellsOf] at this hl; omega
    simp only [Instr.storeAt, Instr.sureAddr, Sem.run_bind, Sem.run_pure, Result.andThen_ok]
    exact run_storeVar' hn hl' h1
   ·cases h
  ·cases h
 ·cases h

theorem boundOf_some {d n : Nat} {x : Option Value} (h : boundOf d x = some n) : (x = none ∧ n = d) ∨ ∃ k i, x = some (.int k i) ∧ 0 ≤ i ∧ n = i.toNat := by
 unfold boundOf at h
 split at h
 ·cases h; exact .inl ⟨rfl, rfl⟩
 ·rename_i k i
  split at h
  ·rename_i hi; cases h; exact .inr ⟨k, i, rfl, hi, rfl⟩
  ·cases h
 ·cases h

def ORel (μ : PMap) : Option Value → Option Value → Prop
 | none, none => True
 | some x, some y => VRel μ x y
 | _, _ => False

theorem ORel.bound {x x' : Option Value} (h : ORel μ x x') {d n : Nat} (hb : boundOf d x = some n) : (x' = none ∧ x = none ∧ n = d) ∨ ∃ k i, x' = some (.int k i) ∧ x = some (.int k i) ∧ 0 ≤ i ∧ n = i.toNat := by
 rcases boundOf_some hb with ⟨rfl, rfl⟩ | ⟨k, i, rfl, hi, rfl⟩
 ·cases x' with
  | none => exact .inl ⟨rfl, rfl, rfl⟩
  | some y => exact absurd h (by simp [ORel])
 ·cases x' with
  | none => exact absurd h (by simp [ORel])
  | some y =>
   have : y = .int k i := VRel.int_inv h
   subst this
   exact .inr ⟨k, i, rfl, rfl, hi, rfl⟩

theorem run_sliceBound {k : IntKind} {i : Int} {y : Nat} {code : BoundsCode} (h0 : 0 ≤ i) (h1 : i.toNat ≤ y) : (Instr.sliceBound (.int k i) y code).run P w = .ok i.toNat w := by
 have : i ≤ (y : Int) := by omega
 simp [Instr.sliceBound, asIntOf, h0, this]

theorem run_sliceBounds2 {isS : Bool} {len cap l h : Nat} {lo lo' hi hi' : Option Value} (hlo : ORel μ lo lo') (hhi : ORel μ hi hi') (hl : boundOf 0 lo = some l) (hh : boundOf len hi = some h)
  (h1 : l ≤ h) (h2 : h ≤ cap) : (Instr.sliceBounds isS len cap lo' hi' none).run P w = .ok (l, h, cap) w := by
 rcases hhi.bound hh with ⟨rfl, _, rfl⟩ | ⟨k, i, rfl, _, hi0, rfl⟩
 ·rcases hlo.bound hl with ⟨rfl, _, rfl⟩ | ⟨k', i', rfl, _, hi0', rfl⟩
  ·simp [Instr.sliceBounds]
  ·simp [Instr.sliceBounds, run_sliceBound hi0' h1]
 ·rcases hlo.bound hl with ⟨rfl, _, rfl⟩ | ⟨k', i', rfl, _, hi0', rfl⟩
  ·simp [Instr.sliceBounds, run_sliceBound hi0 h2]
  ·simp [Instr.sliceBounds, run_sliceBound hi0 h2, run_sliceBound hi0' h1]

theorem aslice_sound {t : TypeId} {x x' v : Value} {lo lo' hi hi' mx mx' : Option Value} (hS : Sim P w0 μ H w) (h : aslice P t x lo hi mx H = some v) (hx : VRel μ x x') (hlo : ORel μ lo lo') (hhi : ORel μ hi hi') (hmx : ORel μ mx mx') :
  Quiet P μ w v (Instr.sliceAt t x' lo' hi' mx') := by
 unfold aslice at h
 split at h
 ·rename_i mv
  split at h
  ·rename_i e id off L len cap hu
   obtain ⟨l, hl, h⟩ := bind_some' h
   obtain ⟨hb, hhb, h⟩ := bind_some' h
   obtain ⟨mb, hmb, h⟩ := bind_some' h
   obtain ⟨s, hs, h⟩ := bind_some' h
   split at h
   ·rename_i hc
    obtain ⟨c1, c2, c3, c4⟩ := hc
    cases h
    obtain ⟨m, c', hm, hcc, hcap, rfl⟩ := hx.slice_inv
    rcases hmx.bound hmb with ⟨_, hn, _⟩ | ⟨k3, i3, rfl, _, h30, rfl⟩
    ·cases hn
    ·rcases hhi.bound hhb with ⟨_, hn, _⟩ | ⟨k2, i2, rfl, _, h20, rfl⟩
     ·rw [hn] at c1; simp at c1
     ·have hml : ¬ (i3.toNat = l) := by omega
      have hbounds : (Instr.sliceBounds true len c' lo' (some (.int k2 i2)) (some (.int k3 i3))).run P w = .ok (l, i2.toNat, i3.toNat) w := by
       rcases hlo.bound hl with ⟨rfl, _, rfl⟩ | ⟨k', i', rfl, _, hi0', rfl⟩
       ·simp [Instr.sliceBounds, run_sliceBound h30 (show i3.toNat ≤ c' by omega), run_sliceBound h20 c3]
       ·simp [Instr.sliceBounds, run_sliceBound h30 (show i3.toNat ≤ c' by omega), run_sliceBound h20 c3, run_sliceBound hi0' (show i'.toNat ≤ i2.toNat by omega)]
      refine ⟨.slice (some (m.at_ (off + l * s))) (i2.toNat - l) (i3.toNat - l), ?_, .slice id _ L _ _ _ m hm (Nat.le_refl _) fun e0 ea => ?_⟩
      ·simp [Instr.sliceAt, run_underlying hu, Instr.slice, hbounds, run_sizeOf hs, hml, Place.at_, Addr.add_lit, Nat.add_assoc]
      ·have : off = 0 := by omega
       have := hcap this ea
       omega
   ·cases h
  ·cases h
 ·have hm0 : mx' = none := by cases mx' with | none => rfl | some y => exact absurd hmx (by simp [ORel])
  subst hm0
  split at h
  ·rename_i s hu
   obtain ⟨l, hl, h⟩ := bind_some' h
   obtain ⟨hb, hhb, h⟩ := bind_some' h
   split at h
   ·rename_i hc
    cases h
    rw [hx.string_inv]
    refine ⟨.string (s.extract l hb), ?_, .base _ rfl⟩
    simp [Instr.sliceAt, run_underlying hu, Instr.slice, run_sliceBounds2 hlo hhi hl hhb hc.1 hc.2]
   ·cases h
  ·rename_i e id off L len cap hu
   obtain ⟨l, hl, h⟩ := bind_some' h
   obtain ⟨hb, hhb, h⟩ := bind_some' h
   obtain ⟨s, hs, h⟩ := bind_some' h
   split at h
   ·rename_i hc
    obtain ⟨m, c', hm, hcc, hcap, rfl⟩ := hx.slice_inv
    have hbnd := run_sliceBounds2 (P := P) (w := w) (isS := true) hlo hhi hl hhb hc.1 (show hb ≤ c' by omega)
    split at h
    ·rename_i hll
     cases h
     refine ⟨.slice (some (m.at_ (off + l * s))) (hb - l) (c' - l), ?_, .slice id _ L _ _ _ m hm (by omega) fun e0 ea => ?_⟩
     ·simp only [Instr.sliceAt, Sem.run_bind, run_underlying hu, Result.andThen_ok, Instr.slice, hbnd, run_sizeOf hs, Sem.run_pure]
      by_cases e0 : c' = l
      ·have : l = 0 := by omega
       subst this
       simp [e0]
      ·simp [e0, Place.at_, Addr.add_lit, Nat.add_assoc]
     ·have : off = 0 := by omega
      have := hcap this ea
      omega
    ·rename_i hll
     cases h
     have hh : hb - l = 0 := by omega
     have : ∃ b o, (if c' = l then some (m.at_ off) else (some (m.at_ off)).map (·.add (l * s))) = some (⟨b, o, none⟩ : Addr) := by
      split
      ·exact ⟨_, _, rfl⟩
      ·exact ⟨m.b, m.off + off + l * s, by simp [Place.at_, Addr.add_lit]⟩
     obtain ⟨b, o, he⟩ := this
     refine ⟨.slice (some ⟨b, o, none⟩) 0 (c' - l), ?_, .lost b o _⟩
     simp only [Instr.sliceAt, Sem.run_bind, run_underlying hu, Result.andThen_ok, Instr.slice, hbnd, run_sizeOf hs, Sem.run_pure, he, hh]
   ·cases h
  ·rename_i e hu
   obtain ⟨l, hl, h⟩ := bind_some' h
   obtain ⟨hb, hhb, h⟩ := bind_some' h
   obtain ⟨s, hs, h⟩ := bind_some' h
   split at h
   ·rename_i hc
    cases h
    rw [hx.plain_inv rfl]
    obtain ⟨rfl, rfl⟩ := hc
    have hbnd := run_sliceBounds2 (P := P) (w := w) (isS := true) (len := 0) (cap := 0) hlo hhi hl hhb (Nat.le_refl _) (Nat.le_refl _)
    refine ⟨.slice none 0 0, ?_, .base _ rfl⟩
    simp only [Instr.sliceAt, Sem.run_bind, run_underlying hu, Result.andThen_ok, Instr.slice, hbnd, run_sizeOf hs, Sem.run_pure]
    rfl
   ·cases h
  ·rename_i n e id off L hu
   obtain ⟨l, hl, h⟩ := bind_some' h
   obtain ⟨hb, hhb, h⟩ := bind_some' h
   obtain ⟨s, hs, h⟩ := bind_some' h
   split at h
   ·rename_i hc
    cases h
    obtain ⟨m, hm, rfl⟩ := hx.ptr_inv
    have hbnd := run_sliceBounds2 (P := P) (w := w) (isS := false) hlo hhi hl hhb hc.1 hc.2.1
    have hvar := hc.2.2.2
    refine ⟨.slice (some (m.at_ (off + l * s))) (hb - l) (n - l), ?_, .slice id _ L _ _ _ m hm (Nat.le_refl _) fun e0 harr => ?_⟩
    ·simp only [Instr.sliceAt, Sem.run_bind, run_underlying hu, Result.andThen_ok, Instr.sureAddr, hbnd, run_sizeOf hs, Sem.run_pure]
     by_cases e0 : n = l
     ·have : l = 0 := by omega
      subst this
      simp [e0]
     ·simp [e0, Place.at_, Addr.add_lit, Nat.add_assoc]
    ·exfalso
     unfold isVar at hvar
     split at hvar
     ·rename_i cs e' wr hh
      have hL : cs.length = L := by simpa using hvar
      subst hL
      obtain ⟨hwr, _, hk⟩ := hS.ok id _ hh
      obtain ⟨_, hrw⟩ := hk cs.length m hwr (Nat.le_refl _) hm
      have := (hrw rfl).1
      rw [harr] at this
      simp [OMode.isRow] at this
     ·cases hvar
   ·cases h
  ·cases h
end
end Go.Proofs.Ythjkodbinkiifaa.Am
