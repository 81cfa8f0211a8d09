/- A part of the proof of a given statement: AmOps3. No condition. -/
import Derived.Test.YthjkodbinkiifaaPart3
import Derived.Great.BuildSlice
import Derived.Laws.MakeOwn
import Derived.Laws.IdiomCopy
namespace Go.Proofs.Ythjkodbinkiifaa.Am
open Go Go.RowKit
section
variable {P : Program} {w0 w : World} {μ : PMap} {H H' : AHeap}

theorem length_repCells (z : List Value) : ∀ n, (repCells z n).length = n * z.length
 | 0 => by simp [repCells]
 | n + 1 => by simp [repCells, length_repCells z n, Nat.add_mul]; omega

theorem getElem?_repCells (z : List Value) : ∀ (n i : Nat), i < n * z.length → (repCells z n)[i]? = z[i % z.length]?
 | 0, i, h => by simp at h
 | n + 1, i, h => by
  simp only [repCells]
  by_cases hi : i < z.length
  ·rw [List.getElem?_append_left hi, Nat.mod_eq_of_lt hi]
  ·rw [List.getElem?_append_right (by omega), getElem?_repCells z n _ (by rw [Nat.add_mul] at h; omega)]
   congr 1
   rw [← Nat.mod_eq_sub_mod (by omega)]

theorem made_toList (z : Array Value) (n : Nat) (hz : 0 < z.size) : (madeCells z (n * z.size)).toList = repCells z.toList n := by
 apply List.ext_getElem?
 intro i
 by_cases hi : i < n * z.size
 ·rw [getElem?_repCells _ _ _ (by simpa using hi)]
  have hm : i % z.size < z.size := Nat.mod_lt _ hz
  simp [madeCells, hi, hm, getElem!_pos]
 ·rw [List.getElem?_eq_none (by rw [Array.length_toList, size_madeCells]; omega), List.getElem?_eq_none (by rw [length_repCells]; simpa using hi)]

theorem foldl_put (off : Nat) : ∀ (l : List Value) (k : Nat) (cells : Array Value), off + k + l.length ≤ cells.size →
  ((l.zipIdx k).foldl (fun cs (x : Value × Nat) => cs.setIfInBounds (off + x.2) x.1) cells).toList = putList cells.toList (off + k) l
 | [], k, cells, h => by simp [putList]
 | v :: l, k, cells, h => by
  simp only [List.zipIdx_cons, List.foldl_cons]
  rw [foldl_put off l (k + 1) _ (by simp at h ⊢; omega)]
  simp only [List.length_cons] at h
  apply List.ext_getElem?
  intro i
  rw [getElem?_putList (by simp; omega), getElem?_putList (by simp; omega)]
  simp only [Array.toList_setIfInBounds, List.length_cons]
  by_cases h1 : off + k ≤ i ∧ i < off + k + (l.length + 1)
  ·rw [if_pos h1]
   by_cases h2 : i = off + k
   ·subst h2
    rw [if_neg (by omega), List.getElem?_set_self (by simp; omega)]
    simp
   ·rw [if_pos (by omega), show i - (off + k) = (i - (off + (k + 1))) + 1 by omega]
    simp
  ·rw [if_neg h1, if_neg (by omega), List.getElem?_set_ne (by omega)]

/-- Parts that stand for one another. -/
def PRel (μ : PMap) (l l' : List (Nat × Value)) : Prop := l.length = l'.length ∧ ∀ (i : Nat) x y, l[i]? = some x → l'[i]? = some y → x.1 = y.1 ∧ VRel μ x.2 y.2
theorem PRel.tail {x y : Nat × Value} {l l' : List (Nat × Value)} (h : PRel μ (x :: l) (y :: l')) : x.1 = y.1 ∧ VRel μ x.2 y.2 ∧ PRel μ l l' :=
 ⟨(h.2 0 x y rfl rfl).1, (h.2 0 x y rfl rfl).2, by simpa using h.1, fun i a b ha hb => h.2 (i + 1) a b (by simpa using ha) (by simpa using hb)⟩

theorem afill_sound {place : Nat → Option (Nat × Nat)} : ∀ {parts parts' : List (Nat × Value)} {cells out : List Value} {cells' : Array Value},
  afill place cells parts = some out → LRel μ cells cells'.toList → PRel μ parts parts' → ∃ out' : Array Value, Instr.fill place cells' parts' = some out' ∧ LRel μ out out'.toList
 | [], parts', cells, out, cells', h, hr, hp => by
  have : parts' = [] := List.eq_nil_of_length_eq_zero hp.1.symm
  subst this
  simp [afill] at h; subst h
  exact ⟨cells', rfl, hr⟩
 | (i, v) :: rest, parts', cells, out, cells', h, hr, hp => by
  match parts', hp with
  | (i', v') :: rest', hp =>
   obtain ⟨e, hv, hp'⟩ := hp.tail
   simp only at e hv
   subst e
   simp only [afill] at h
   split at h
   ·cases h
   ·rename_i off size hpl
    split at h
    ·rename_i hc
     obtain ⟨c1, c2, c3⟩ := hc
     have hcr := hv.cells c2 (noTuple c2)
     have hsz : v'.cells.size = size := by have := hcr.1; simp [cellsOf] at this c1; omega
     have hlen : cells'.size = cells.length := by have := hr.1; simp at this; exact this.symm
     have hle : off + v'.cells.size ≤ cells'.size := by have := hcr.1; simp [cellsOf] at this c3; omega
     have hput : ((v'.cells.zipIdx.foldl (fun cs (x : Value × Nat) => cs.setIfInBounds (off + x.2) x.1) cells')).toList = putList cells'.toList off v'.cells.toList := by
      rw [← Array.foldl_toList, Array.toList_zipIdx]
      exact foldl_put off v'.cells.toList 0 cells' (by simpa using hle)
     obtain ⟨out', h1, h2⟩ := afill_sound h (by rw [hput]; exact hr.putList hcr off) hp'
     refine ⟨out', ?_, h2⟩
     simp only [Instr.fill, hpl]
     rw [if_neg (by simp [hsz]; omega)]
     exact h1
    ·cases h

theorem abuild_sound {t : TypeId} {parts : List (Nat × Value)} {parts' : Array (Nat × Value)} {v : Value} (h : abuild P t parts = some v) (hp : PRel μ parts parts'.toList) : Quiet P μ w v (Instr.build t parts') := by
 unfold abuild at h
 obtain ⟨z, hz, h⟩ := bind_some' h
 obtain ⟨i, hi, hiz⟩ := tzero_some hz
 split at h
 ·rename_i hpl
  have hzr : LRel μ (cellsOf z) z.cells.toList := LRel.of_plain μ hpl
  split at h
  ·rename_i fs hu
   split at h
   ·rename_i hall
    obtain ⟨cs, hcs, rfl⟩ := map_some' h
    obtain ⟨out', h1, h2⟩ := afill_sound hcs hzr hp
    have hm : ∃ places, fs.toList.mapM (fun f => (P.info? f.type).map fun i => (f.offset, i.size)) = some places ∧ ∀ i, places[i]? = fieldPlaces P fs.toList i := by
     have key : ∀ l : List Field, l.all (fun f => (tsize P f.type).isSome) = true → ∃ places, l.mapM (fun f => (P.info? f.type).map fun i => (f.offset, i.size)) = some places ∧ ∀ i, places[i]? = fieldPlaces P l i := by
      intro l
      induction l with
      | nil => intro _; exact ⟨[], rfl, fun i => by simp [fieldPlaces]⟩
      | cons f l ih =>
       intro ha
       simp only [List.all_cons, Bool.and_eq_true] at ha
       obtain ⟨places, hm, hg⟩ := ih ha.2
       obtain ⟨n, hn⟩ := Option.isSome_iff_exists.1 ha.1
       obtain ⟨j, hj, rfl⟩ := tsize_some hn
       refine ⟨(f.offset, j.size) :: places, by simp [List.mapM_cons, hj, hm], fun i => ?_⟩
       cases i with
       | zero => simp [fieldPlaces, tsize, hj]
       | succ i => have := hg i; simpa [fieldPlaces] using this
     exact key fs.toList hall
    obtain ⟨places, hm, hg⟩ := hm
    refine ⟨.agg out', run_build w t parts' out' ?_, ?_⟩
    ·unfold Program.built
     simp only [hi, hu, hiz, hm]
     rw [show (fun x => places.toArray[x]?) = fieldPlaces P fs.toList from funext fun i => by simpa using hg i]
     exact h1
    ·have := VRel.mk_agg h2
     simpa using this
   ·cases h
  ·rename_i n e hu
   obtain ⟨s, hs, h⟩ := bind_some' h
   obtain ⟨cs, hcs, rfl⟩ := map_some' h
   obtain ⟨j, hj, rfl⟩ := tsize_some hs
   obtain ⟨out', h1, h2⟩ := afill_sound hcs hzr hp
   refine ⟨.agg out', run_build w t parts' out' ?_, ?_⟩
   ·unfold Program.built
    simp only [hi, hu, hiz, hj]
    exact h1
   ·have := VRel.mk_agg h2
    simpa using this
  ·cases h
 ·cases h

theorem rowRel {cs : List Value} {c : Array Value} (h : LRel μ cs c.toList) : ∀ (i : Nat) (x : Value), cs[i]? = some x → ∃ v', c[i]? = some v' ∧ VRel μ x v' := by
 intro i x hx
 obtain ⟨y, hy, hr⟩ := h.get hx
 exact ⟨y, by simpa using hy, hr⟩

/-- One object is made. -/
structure Makes (P : Program) (w0 : World) (μ : PMap) (w : World) (H : AHeap) (v : Value) (H' : AHeap) (s : Sem Value) (o : AObj) (L : Nat) (m : Place) (x : Obj) (v' : Value) (mk : Nat → Value) : Prop where
 heap : H' = H ++ [o]
 val : v = mk H.length
 nohole : o ≠ .hole
 run : s.run P w = .ok v' (w.alloc x)
 blk : m.b = w.heap.size
 lv : ∀ K, lives o K → K = L
 ver : ∀ cs e wr md, o = .cells cs e wr md → L ≤ cs.length
 ren : ∀ a b, renTop a b (mk a) = mk b
 rel : ∀ (tid : Nat) (μ2 : PMap), μ2 tid L = some m → VRel μ2 (mk tid) v'
 ok : ∀ (tid : Nat) (μ2 : PMap), Sub μ μ2 → μ2 tid L = some m → ObjOK P w0 (w.alloc x) μ2 tid o

theorem Makes.at_ {v : Value} {s : Sem Value} {o : AObj} {L : Nat} {m : Place} {x : Obj} {v' : Value} {mk : Nat → Value} (h : Makes P w0 μ w H v H' s o L m x v' mk) (hS : Sim P w0 μ H w) (tid : Nat) (H2 : AHeap)
  (hfresh : ∀ K, μ tid K = none) (hget : H2[tid]? = some o) (hoth : ∀ id, id ≠ tid → H2[id]? = H[id]?) (hlen : H.length ≤ H2.length) : Does P w0 μ w (mk tid) H2 s :=
 ⟨ext1 μ tid L m, v', _, h.run, ext1_sub (hfresh L), h.rel tid _ (ext1_at _ _ _ _), hS.place tid o x L m h.blk hfresh hget hoth hlen h.nohole h.lv h.ver (h.ok tid _ (ext1_sub (hfresh L)) (ext1_at _ _ _ _))⟩

theorem Makes.does {v : Value} {s : Sem Value} {o : AObj} {L : Nat} {m : Place} {x : Obj} {v' : Value} {mk : Nat → Value} (h : Makes P w0 μ w H v H' s o L m x v' mk) (hS : Sim P w0 μ H w) : Does P w0 μ w v H' s := by
 rw [h.heap, h.val]
 exact h.at_ hS H.length _ hS.fresh append_get.1 append_get.2 (by simp)

theorem cells_lv {cs : List Value} {e : TypeId} {md : OMode} : ∀ K, lives (.cells cs e cs.length md) K → K = cs.length := fun K h => by simp only [lives] at h; omega
theorem cells_ver {cs : List Value} {e : TypeId} {md : OMode} : ∀ cs2 e2 wr2 md2, AObj.cells cs e cs.length md = .cells cs2 e2 wr2 md2 → cs.length ≤ cs2.length := fun _ _ _ _ h => by cases h; exact Nat.le_refl _

theorem abox_makes (hS : Sim P w0 μ H w) {e : TypeId} {x x' v : Value} (h : abox e x H = some (v, H')) (hx : VRel μ x x') : ∃ o L m b v' mk, Makes P w0 μ w H v H' (Instr.box e x') o L m b v' mk := by
 unfold abox at h
 split at h
 ·rename_i hc
  simp only [Option.some.injEq, Prod.mk.injEq] at h
  obtain ⟨rfl, rfl⟩ := h
  have hr := hx.cells hc (noTuple hc)
  refine ⟨_, (cellsOf x).length, ⟨w.heap.size, 0, 0, true⟩, .cells x'.cells e, .pointer (some ⟨w.heap.size, 0, none⟩), fun id => .pointer (some ⟨id, 0, some (cellsOf x).length⟩),
   rfl, rfl, (by intro h; cases h), ?_, rfl, cells_lv, cells_ver, fun a b => by simp [renTop], fun tid μ2 h => .ptr tid 0 _ _ h, fun tid μ2 hsub hat => ?_⟩
  ·simp only [Instr.box, newVar, newRow, Sem.run_bind, run_newObj, Result.andThen_ok, Sem.run_pure]
   rfl
  ·exact cellsOK hS _ e .var x'.cells 0 true rfl (rowRel hr) (fun s _ => by simp) hsub tid hat
 ·cases h

theorem aalloc_makes (hS : Sim P w0 μ H w) {e : TypeId} {v : Value} (h : aalloc P e H = some (v, H')) : ∃ o L m b v' mk, Makes P w0 μ w H v H' (Instr.alloc e true (.tuple #[])) o L m b v' mk := by
 unfold aalloc at h
 obtain ⟨z, hz, h1⟩ := bind_some' h
 split at h1
 ·rename_i hc
  simp only [Option.some.injEq, Prod.mk.injEq] at h1
  obtain ⟨rfl, rfl⟩ := h1
  refine ⟨_, (cellsOf z).length, ⟨w.heap.size, 0, 0, true⟩, .cells z.cells e, .pointer (some ⟨w.heap.size, 0, none⟩), fun id => .pointer (some ⟨id, 0, some (cellsOf z).length⟩),
   rfl, rfl, (by intro h; cases h), ?_, rfl, cells_lv, cells_ver, fun a b => by simp [renTop], fun tid μ2 h => .ptr tid 0 _ _ h, fun tid μ2 hsub hat => ?_⟩
  ·simp only [Instr.alloc, run_zeroValue hz, newVar, newRow, Sem.run_bind, run_newObj, Result.andThen_ok, Sem.run_pure]
   rfl
  ·exact cellsOK hS _ e .var z.cells 0 true rfl (rowRel (LRel.of_plain μ hc)) (fun s _ => by simp) hsub tid hat
 ·cases h1

theorem abuildSlice_makes (hS : Sim P w0 μ H w) {t : TypeId} {len : Nat} {parts : List (Nat × Value)} {parts' : Array (Nat × Value)} {v : Value} (h : abuildSlice P t len parts H = some (v, H')) (hp : PRel μ parts parts'.toList) :
  (H' = H ∧ v = emptySlice ∧ Does P w0 μ w v H (Instr.buildSlice t len parts')) ∨ ∃ o L m b v' mk, Makes P w0 μ w H v H' (Instr.buildSlice t len parts') o L m b v' mk := by
 unfold abuildSlice at h
 obtain ⟨e, he, q1⟩ := bind_some' h
 obtain ⟨n, hn, q2⟩ := bind_some' q1
 clear h q1
 have hu := tslice_some he
 split at q2
 ·rename_i h0
  subst h0
  split at q2
  ·rename_i hpe
   simp only [Option.some.injEq, Prod.mk.injEq] at q2
   obtain ⟨rfl, rfl⟩ := q2
   have hp0 : parts'.toList = [] := List.eq_nil_of_length_eq_zero (by rw [← hp.1]; simpa using hpe)
   have hrun : (Instr.buildSlice t 0 parts').run P w = .ok (.slice (some ⟨w.heap.size, 0, none⟩) 0 0) (w.alloc (.cells #[] e)) := by
    simp [Instr.buildSlice, run_underlying hu, run_sizeOf hn, hp0, Instr.fill, newRow, Array.range_zero']
   refine .inl ⟨rfl, rfl, μ, _, _, hrun, Sub.refl μ, .empty _, ?_⟩
   refine ⟨hS.below.alloc hS.below.size _, fun id L m hm => ?_, hS.nohole, hS.ver, fun id o ho => ?_, hS.sep, hS.gl⟩
   ·have := hS.dom id L m hm
    refine ⟨this.1, ?_⟩
    have hsz : (w.alloc (.cells #[] e)).heap.size = w.heap.size + 1 := by simp
    omega
   ·exact (hS.ok id o ho).keep (Sub.refl μ) (fun _ => rfl) fun L m _ hm => Below.heap_alloc _ _ _ (hS.dom id L m hm).2
  ·cases q2
 ·rename_i h0
  split at q2
  ·cases q2
  ·rename_i hlim
   obtain ⟨z, hz, q3⟩ := bind_some' q2
   split at q3
   ·rename_i hc
    obtain ⟨hcp, hcl⟩ := hc
    obtain ⟨cs, hcs, q4⟩ := map_some' q3
    simp only [Prod.mk.injEq] at q4
    obtain ⟨rfl, rfl⟩ := q4
    obtain ⟨i, hi, hin⟩ := tsize_some hn
    obtain ⟨i', hi', hiz⟩ := tzero_some hz
    rw [hi] at hi'; cases hi'
    have hzs : z.cells.size = n := by simpa [cellsOf] using hcl
    have hmade : (madeCells z.cells (len * n)).toList = repCells (cellsOf z) len := by rw [← hzs]; exact made_toList z.cells len (by omega)
    have hzr : LRel μ (repCells (cellsOf z) len) (madeCells z.cells (len * n)).toList := by rw [hmade]; exact (LRel.of_plain μ hcp).rep len
    obtain ⟨out', h1, h2⟩ := afill_sound hcs hzr hp
    have hlen : cs.length = len * n := by
     have key : ∀ (parts : List (Nat × Value)) (cells out : List Value), afill (fun i => some (i * n, n)) cells parts = some out → out.length = cells.length := by
      intro parts
      induction parts with
      | nil => intro cells out h; simp [afill] at h; rw [h]
      | cons p rest ih =>
       intro cells out h
       obtain ⟨i, v⟩ := p
       simp only [afill] at h
       split at h
       ·rename_i hcc
        rw [ih _ _ h, length_putList (by omega)]
       ·cases h
     rw [key _ _ _ hcs, length_repCells, hcl]
    have hrun := run_buildSlice (P := P) w t e len parts' out' i z hu hi hiz (by rw [hin]; omega) (by rw [hin]; intro e0; rcases Nat.mul_eq_zero.1 e0 with e1 | e1 <;> omega) (by rw [hin]; exact h1)
    have hsz : len * n ≤ out'.size := by have := h2.1; simp at this; omega
    rw [← hlen]
    refine .inr ⟨_, cs.length, ⟨w.heap.size, 0, len, false⟩, _, _, fun id => .slice (some ⟨id, 0, some cs.length⟩) len len,
     rfl, rfl, (by intro h; cases h), hrun, rfl, cells_lv, cells_ver, fun a b => by simp [renTop], fun tid μ2 h => .slice tid 0 _ _ _ _ ⟨w.heap.size, 0, len, false⟩ h (Nat.le_refl _) fun _ _ => Nat.le_refl _, fun tid μ2 hsub hat => ?_⟩
    exact cellsOK hS cs e .row out' len false rfl (rowRel h2) (fun s hs => by rw [hn] at hs; cases hs; exact hsz) hsub tid hat
   ·contradiction

theorem amakeSlice_makes (hS : Sim P w0 μ H w) {t : TypeId} {l l' c c' v : Value} (h : amakeSlice P t l c H = some (v, H')) (hl : VRel μ l l') (hc : VRel μ c c') : ∃ o L m b v' mk, Makes P w0 μ w H v H' (Instr.makeSlice t l' c') o L m b v' mk := by
 unfold amakeSlice at h
 split at h
 ·rename_i k n k' m
  rw [hl.int_inv, hc.int_inv]
  obtain ⟨e, he, q1⟩ := bind_some' h
  obtain ⟨s, hs, q2⟩ := bind_some' q1
  obtain ⟨b, hb, q3⟩ := bind_some' q2
  obtain ⟨z, hz, q4⟩ := bind_some' q3
  have hu := tslice_some he
  split at q4
  ·rename_i hcond
   obtain ⟨c1, c2, c3, c4, c5, c6, c7⟩ := hcond
   subst c2
   simp only [Option.some.injEq, Prod.mk.injEq] at q4
   obtain ⟨rfl, rfl⟩ := q4
   obtain ⟨i, hi, hib⟩ := tbytes_some hb
   obtain ⟨i2, hi2, his⟩ := tsize_some hs
   rw [hi] at hi2; cases hi2
   obtain ⟨i3, hi3, hiz⟩ := tzero_some hz
   rw [hi] at hi3; cases hi3
   have hzs : z.cells.size = s := by simpa [cellsOf] using c6
   have hwrap : IntKind.i64.wrap n = n := by
    have hm : n % (18446744073709551616 : Int) = n := Int.emod_eq_of_lt c1 (by omega)
    simp only [IntKind.wrap]
    show (if (true && decide (n % (18446744073709551616 : Int) ≥ (9223372036854775808 : Int))) = true then n % (18446744073709551616 : Int) - 18446744073709551616 else n % (18446744073709551616 : Int)) = n
    rw [hm, if_neg (by simp; omega)]
   have hmade : (madeCells z.cells (n.toNat * s)).toList = repCells (cellsOf z) n.toNat := by rw [← hzs]; exact made_toList z.cells n.toNat (by omega)
   have hrun : (Instr.makeSlice t (.int k n) (.int k' n)).run P w = .ok (.slice (some ⟨w.heap.size, 0, none⟩) n.toNat n.toNat) (w.alloc (.cells (madeCells z.cells (n.toNat * s)) e)) := by
    have hz0 : ¬ n < 0 := by omega
    have hbig : ¬ ((281474976710656 : Int) < (i.bytes : Int) * n) := by rw [hib]; omega
    have hrow : (madeCells z.cells (n.toNat * s)) = (Array.range (n.toNat * s)).map (z.cells[· % z.cells.size]!) := rfl
    by_cases h00 : n.toNat * s = 0
    ·have hempty : madeCells z.cells 0 = #[] := by simp [madeCells, Array.range_zero']
     simp [Instr.makeSlice, run_underlying hu, asInt, asIntOf, run_typeInfo hi, hwrap, hz0, hbig, run_sizeOf hs, h00, newRow, hempty, Array.range_zero']
    ·simp [Instr.makeSlice, run_underlying hu, asInt, asIntOf, run_typeInfo hi, hwrap, hz0, hbig, run_sizeOf hs, h00, newRow, run_zeroValue hz, hrow]
   have hlen : (repCells (cellsOf z) n.toNat).length = n.toNat * s := by rw [length_repCells, c6]
   rw [← hlen]
   refine ⟨_, (repCells (cellsOf z) n.toNat).length, ⟨w.heap.size, 0, n.toNat, false⟩, _, _, fun id => .slice (some ⟨id, 0, some (repCells (cellsOf z) n.toNat).length⟩) n.toNat n.toNat,
    rfl, rfl, (by intro h; cases h), hrun, rfl, cells_lv, cells_ver, fun a b => by simp [renTop], fun tid μ2 h => .slice tid 0 _ _ _ _ ⟨w.heap.size, 0, n.toNat, false⟩ h (Nat.le_refl _) fun _ _ => Nat.le_refl _, fun tid μ2 hsub hat => ?_⟩
   exact cellsOK hS _ e .row (madeCells z.cells (n.toNat * s)) n.toNat false rfl (rowRel (by rw [hmade]; exact (LRel.of_plain μ c5).rep _)) (fun s' hs' => by rw [hs] at hs'; cases hs'; rw [size_madeCells]; exact Nat.le_refl _) hsub tid hat
  ·contradiction
 ·cases h

theorem amakeMap_makes (hS : Sim P w0 μ H w) {t : TypeId} {v : Value} (h : amakeMap H = some (v, H')) : ∃ o L m b v' mk, Makes P w0 μ w H v H' (Instr.makeMap t none) o L m b v' mk := by
 unfold amakeMap at h
 cases h
 refine ⟨_, 0, ⟨w.heap.size, 0, 0, false⟩, .map #[] 0, .map (some w.heap.size), fun id => .map (some id),
  rfl, rfl, (by intro h; cases h), ?_, rfl, fun K hK => hK, fun cs e wr md ho => (by cases ho), fun a b => by simp [renTop], fun tid μ2 h => .map tid _ h, fun tid μ2 hsub hat => ?_⟩
 ·simp only [Instr.makeMap, Sem.run_bind, Sem.run_pure, Result.andThen_ok, run_newObj]
  rfl
 ·exact ⟨_, hat, hS.below.size, #[], 0, heap_alloc_new w _, rfl, fun i x y hx => by simp at hx⟩

theorem abox_sound (hS : Sim P w0 μ H w) {e : TypeId} {x x' v : Value} (h : abox e x H = some (v, H')) (hx : VRel μ x x') : Does P w0 μ w v H' (Instr.box e x') :=
 let ⟨_, _, _, _, _, _, hm⟩ := abox_makes hS h hx
 hm.does hS
theorem aalloc_sound (hS : Sim P w0 μ H w) {e : TypeId} {v : Value} (h : aalloc P e H = some (v, H')) : Does P w0 μ w v H' (Instr.alloc e true (.tuple #[])) :=
 let ⟨_, _, _, _, _, _, hm⟩ := aalloc_makes hS h
 hm.does hS
theorem abuildSlice_sound (hS : Sim P w0 μ H w) {t : TypeId} {len : Nat} {parts : List (Nat × Value)} {parts' : Array (Nat × Value)} {v : Value} (h : abuildSlice P t len parts H = some (v, H')) (hp : PRel μ parts parts'.toList) :
  Does P w0 μ w v H' (Instr.buildSlice t len parts') := by
 rcases abuildSlice_makes hS h hp with ⟨rfl, _, hd⟩ | ⟨_, _, _, _, _, _, hm⟩
 ·exact hd
 ·exact hm.does hS
theorem amakeSlice_sound (hS : Sim P w0 μ H w) {t : TypeId} {l l' c c' v : Value} (h : amakeSlice P t l c H = some (v, H')) (hl : VRel μ l l') (hc : VRel μ c c') : Does P w0 μ w v H' (Instr.makeSlice t l' c') :=
 let ⟨_, _, _, _, _, _, hm⟩ := amakeSlice_makes hS h hl hc
 hm.does hS
theorem amakeMap_sound (hS : Sim P w0 μ H w) {t : TypeId} {v : Value} (h : amakeMap H = some (v, H')) : Does P w0 μ w v H' (Instr.makeMap t none) :=
 let ⟨_, _, _, _, _, _, hm⟩ := amakeMap_makes (t := t) hS h
 hm.does hS
end
end Go.Proofs.Ythjkodbinkiifaa.Am
