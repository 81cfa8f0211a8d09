/- A part of the proof of a given statement: AmArg, AmAuto, AmAutoS, AmPw2, P23_35, P23_64, P23_36, P23_41, P23_11, Sp23_Chk, AmRd2, P23_14, Sp23_Count, AmStr, Sp23_Bfs, Sp23_C14, P23_65, Sp23_C65, P23_71, Sp23_Hope, Sp23_Sound, P23_53, Sp23_C53. No condition. -/
import Derived.Test.YthjkodbinkiifaaPart10
import Derived.Lib.SmallJoins
import Derived.Deep.Grids
import Derived.ChangeSlices
namespace Go.Proofs.Ythjkodbinkiifaa.Am
open Go Go.RowKit Go.ChangeShapes Go.WideShapes

/-- A row of memory that is only read. -/
theorem Sim.ro {P : Program} {w0 w : World} {μ : PMap} {H : AHeap} (h : Sim P w0 μ H w) (hnw : ∀ (id : Nat) (o : AObj), H[id]? = some o → writable o = false) {vs : List Value} {e b off : Nat} (hb : b < w.heap.size) (hc : ∀ i v, vs[i]? = some v → w.cell? ⟨b, off + i, none⟩ = some v) (hp : vs.all plain0 = true) :
  Sim P w0 (ext1 μ H.length vs.length ⟨b, off, 0, true⟩) (H ++ [.cells vs e vs.length .ro]) w ∧ Sub μ (ext1 μ H.length vs.length ⟨b, off, 0, true⟩) := by
 have hf : ∀ L, μ H.length L = none := fun L => by
  cases hh : μ H.length L with
  | none => rfl
  | some m => have := (h.dom _ _ _ hh).1; omega
 have hsub : Sub μ (ext1 μ H.length vs.length ⟨b, off, 0, true⟩) := ext1_sub (hf _)
 have old : ∀ {id L m}, ext1 μ H.length vs.length ⟨b, off, 0, true⟩ id L = some m → (id = H.length ∧ L = vs.length ∧ m = ⟨b, off, 0, true⟩) ∨ (id ≠ H.length ∧ μ id L = some m) := by
  intro id L m hm
  unfold ext1 at hm
  split at hm
  ·rename_i hc; cases hm; exact .inl ⟨hc.1, hc.2, rfl⟩
  ·refine .inr ⟨fun e => ?_, hm⟩
   rw [e, hf] at hm
   cases hm
 have hget : ∀ {id o}, (H ++ [AObj.cells vs e vs.length .ro])[id]? = some o → (id < H.length ∧ H[id]? = some o) ∨ (id = H.length ∧ o = .cells vs e vs.length .ro) := by
  intro id o ho
  by_cases hid : id < H.length
  ·rw [List.getElem?_append_left hid] at ho
   exact .inl ⟨hid, ho⟩
  ·rw [List.getElem?_append_right (by omega)] at ho
   cases hh : id - H.length with
   | zero => rw [hh] at ho; simp only [List.getElem?_cons_zero, Option.some.injEq] at ho; exact .inr ⟨by omega, ho.symm⟩
   | succ k => rw [hh] at ho; simp at ho
 refine ⟨⟨h.below, fun id L m hm => ?_, fun id L m hm => ?_, fun id L m cs e' wr md hm hH => ?_, fun id o ho => ?_, fun id id' o o' L L' m m' hne ho ho' hw hl hl' hm hm' => ?_, h.gl⟩, hsub⟩
 ·rcases old hm with ⟨h1, h2, h3⟩ | ⟨h1, h2⟩
  ·subst h3; exact ⟨by simp; omega, hb⟩
  ·have := h.dom id L m h2; exact ⟨by simp; omega, this.2⟩
 ·rcases old hm with ⟨h1, h2, h3⟩ | ⟨h1, h2⟩
  ·rw [h1, append_get.1]; simp
  ·have := (h.dom id L m h2).1
   rw [List.getElem?_append_left this]
   exact h.nohole id L m h2
 ·rcases old hm with ⟨h1, h2, h3⟩ | ⟨h1, h2⟩
  ·rw [h1, append_get.1] at hH
   cases hH
   omega
  ·have := (h.dom id L m h2).1
   rw [List.getElem?_append_left this] at hH
   exact h.ver id L m cs e' wr md h2 hH
 ·rcases hget ho with ⟨hid, ho⟩ | ⟨hid, rfl⟩
  ·refine (h.ok id o ho).keep hsub (fun L => ?_) fun _ _ _ _ => rfl
   exact ext1_ne (fun hh => by omega)
  ·subst hid
   refine ⟨Nat.le_refl _, ⟨_, ext1_at _ _ _ _⟩, fun L m h1 h2 h3 => ?_⟩
   rcases old h3 with ⟨_, h5, rfl⟩ | ⟨h4, _⟩
   ·refine ⟨fun i x _ hx => ⟨x, ?_, .base x (List.all_eq_true.1 hp x (List.mem_of_getElem? hx))⟩, fun hh => by cases hh⟩
    exact hc i x hx
   ·exact absurd rfl h4
 ·rcases hget ho with ⟨hid, ho⟩ | ⟨hid, rfl⟩
  ·rcases hget ho' with ⟨hid', ho'⟩ | ⟨hid', rfl⟩
   ·rcases old hm with ⟨h1, _, _⟩ | ⟨_, hm⟩
    ·omega
    ·rcases old hm' with ⟨h1, _, _⟩ | ⟨_, hm'⟩
     ·omega
     ·exact h.sep id id' o o' L L' m m' hne ho ho' hw hl hl' hm hm'
   ·rw [hnw id o ho] at hw; cases hw
  ·cases hw

/-- What is known of memory at the start: rows that are only read. -/
structure ArgSt (P : Program) (W : World) (μ : PMap) (H : AHeap) : Prop where
 sim : Sim P W μ H W
 ro : ∀ (id : Nat) (o : AObj), H[id]? = some o → writable o = false
/-- No package-level variable that the machine knows. -/
theorem GL.none {P : Program} {W : World} (h : (P.globals.toList.all fun x => x.name != "math/bits.deBruijn64tab") = true) : GL P W := fun g cs hk i v hv => by
 exfalso
 unfold known at hk
 split at hk
 ·rename_i x hx
  split at hk
  ·rename_i hn
   have := List.all_eq_true.1 h x (by have := Array.mem_of_getElem? hx; simpa using this)
   simp [hn] at this
  ·cases hk
 ·cases hk
theorem ArgSt.empty (P : Program) (W : World) (hg : GL P W) : ArgSt P W (fun _ _ => none) [] := ⟨Sim.empty P W hg, fun _ _ h => by simp at h⟩

/-- A slice in an argument. -/
theorem ArgSt.slice {P : Program} {W : World} {μ : PMap} {H : AHeap} (h : ArgSt P W μ H) {e : Nat} {a : Option Addr} {len cap : Nat} (vs : List Value) (hnil : a = none → len = 0 ∧ cap = 0) (hsp : ∀ x, a = some x → x.spot = none ∧ x.block < W.heap.size) (hlen : vs.length = len)
  (hc : ∀ x, a = some x → ∀ i v, vs[i]? = some v → W.cell? (x.add i) = some v) (hcap : len ≤ cap) (hp : vs.all plain0 = true) :
  ∃ av H' μ', ArgSt P W μ' H' ∧ Sub μ μ' ∧ VRel μ' av (.slice a len cap) ∧ Rd H' e 1 av len vs ∧ Stay none H H' ∧ (a = none → av = .slice none 0 0) := by
 cases a with
 | none =>
  obtain ⟨h1, h2⟩ := hnil rfl
  subst h1; subst h2
  exact ⟨.slice none 0 0, H, μ, h, Sub.refl μ, .base _ rfl, ⟨by omega, .inl ⟨rfl, .inl rfl⟩⟩, Stay.refl _ _, fun _ => rfl⟩
 | some x =>
  obtain ⟨b, off, spot⟩ := x
  obtain ⟨h1, h2⟩ := hsp _ rfl
  simp only at h1 h2
  subst h1
  obtain ⟨s1, s2⟩ := h.sim.ro h.ro (vs := vs) (e := e) (b := b) (off := off) h2 (fun i v hv => by
   have := hc _ rfl i v hv
   unfold Addr.add at this
   split at this
   ·rename_i hi; subst hi; exact this
   ·exact this) hp
  refine ⟨.slice (some ⟨H.length, 0, some vs.length⟩) len len, _, _, ⟨s1, fun id o ho => ?_⟩, s2, ?_, ⟨by omega, .inr ⟨H.length, vs.length, vs.length, .ro, len, vs, rfl, Nat.le_refl _, Nat.le_refl _, by omega, append_get.1, by rw [List.take_of_length_le (by omega)]⟩⟩, Stay.app none H _, fun hh => by cases hh⟩
  ·by_cases hid : id < H.length
   ·rw [List.getElem?_append_left hid] at ho
    exact h.ro id o ho
   ·rw [List.getElem?_append_right (by omega)] at ho
    cases hh : id - H.length with
    | zero => rw [hh] at ho; simp only [List.getElem?_cons_zero, Option.some.injEq] at ho; subst ho; rfl
    | succ k => rw [hh] at ho; simp at ho
  ·have := VRel.slice (μ := ext1 μ H.length vs.length ⟨b, off, 0, true⟩) H.length 0 vs.length len len cap ⟨b, off, 0, true⟩ (ext1_at _ _ _ _) hcap (fun _ hh => by cases hh)
   exact this
end Go.Proofs.Ythjkodbinkiifaa.Am
namespace Go.Proofs.Ythjkodbinkiifaa.Am
open Go Go.RowKit Go.ChangeShapes Go.WideShapes

theorem shape_lt {w : World} {b : Nat} {x : TypeId × Nat} (h : w.shape? b = some x) : b < w.heap.size := by
 unfold World.shape? at h
 cases hh : w.heap[b]? with
 | none => rw [hh] at h; cases h
 | some o => exact (Array.getElem?_eq_some_iff.1 hh).1

/-- What is known of a slice's cell. -/
theorem cell_slice {P : Program} {w : World} {r : Reach} {base : Nat} {t e : TypeId} {a : Addr} {len cap : Nat} (ht : P.underlying t = some (.slice e)) (h : Cell.okWide P w r base t (.slice (some a) len cap)) : a.spot = none ∧ a.block < w.heap.size := by
 unfold Cell.okWide at h
 rw [ht] at h
 unfold Cell.ok at h
 rw [ht] at h
 obtain ⟨_, _, _, h1, row, cells, h2, _⟩ := h
 exact ⟨h1, shape_lt h2⟩

/-- An automaton (a number, numbers, truths) in an argument. -/
theorem ArgSt.auto {P : Program} {W : World} {μ : PMap} {H : AHeap} (h : ArgSt P W μ H) {A : Type} {enc : TypeId × Value → A} {base : Nat} {tA e1 e2 : TypeId} {f0 f1 f2 : Field} {v : Value} {d : DataW A} {ps : List MemPlace}
  (hs : P.underlying tA = some (.struct #[f0, f1, f2])) (hone : Go.Deep.oneCellFields P #[f0, f1, f2] = true) (hC : P.cellsOf tA = 3) (hts : P.cellTypes P.depth tA = some [f0.type, f1.type, f2.type])
  (t0 : P.underlying f0.type = some (.int .i64)) (t1 : P.underlying f1.type = some (.slice e1)) (t2 : P.underlying f2.type = some (.slice e2)) (u1 : P.underlying e1 = some (.int .i64)) (u2 : P.underlying e2 = some .bool) (c1 : P.cellsOf e1 = 1) (c2 : P.cellsOf e2 = 1)
  (hval : Value.okWide P W .any base tA v) (hd : DataW.Trod enc P W 0 (fun _ => true) true tA v d ps) :
  ∃ (k : Int) (xs : List Int) (bs : List Bool) (vN vA : Value) (H' : AHeap) (μ' : PMap), ArgSt P W μ' H' ∧ Sub μ μ' ∧ VRel μ' (.agg #[.int .i64 k, vN, vA]) v ∧ Rd H' e1 1 vN xs.length (xs.map (Value.int .i64)) ∧ Rd H' e2 1 vA bs.length (bs.map Value.bool) ∧ Stay none H H' := by
 obtain ⟨cs0, hv0, hsz0, hrow⟩ : ∃ cs, v = .agg cs ∧ cs.size = P.cellsOf tA ∧ Row.okWide P W .any base tA cs := by
  unfold Value.okWide at hval
  rw [hs] at hval
  exact hval
 obtain ⟨v0, v1, v2, y0, y1, y2, n, hv, _, _, r0, r1, r2⟩ := Go.Joins.open_agg3 hs hone hC hval hd
 rw [hv] at hv0
 cases hv0
 obtain ⟨ts, h1, _, h3⟩ := hrow
 rw [hts] at h1
 cases h1
 subst hv
 obtain ⟨k, hk, _⟩ : ∃ k : Int, v0 = .int .i64 k ∧ True := by
  obtain ⟨k, hh, _⟩ := DataW.trod_int t0 r0
  simp only [List.cons.injEq, and_true] at hh
  exact ⟨k, hh, trivial⟩
 have ok1 : Cell.okWide P W .any base f1.type v1 := by
  obtain ⟨u, hu, hok⟩ := h3 1 v1 rfl
  cases hu
  exact hok
 have ok2 : Cell.okWide P W .any base f2.type v2 := by
  obtain ⟨u, hu, hok⟩ := h3 2 v2 rfl
  cases hu
  exact hok
 have sN : ∃ (xs : List Int) (vN : Value) (H1 : AHeap) (μ1 : PMap), ArgSt P W μ1 H1 ∧ Sub μ μ1 ∧ VRel μ1 vN v1 ∧ Rd H1 e1 1 vN xs.length (xs.map (Value.int .i64)) ∧ Stay none H H1 := by
  rcases open_ints t1 u1 c1 r1 with ⟨hh, _⟩ | ⟨a, len, cap, zs, hh, _, hlc, _, hzl, _, hcell, _⟩
  ·simp only [List.cons.injEq, and_true] at hh
   subst hh
   exact ⟨[], .slice none 0 0, H, μ, h, Sub.refl μ, .base _ rfl, ⟨rfl, .inl ⟨rfl, .inl rfl⟩⟩, Stay.refl _ _⟩
  ·simp only [List.cons.injEq, and_true] at hh
   subst hh
   simp only [if_true] at hzl
   obtain ⟨g1, g2⟩ := cell_slice t1 ok1
   obtain ⟨av, H1, μ1, q1, q2, q3, q4, q5, _⟩ := h.slice (e := e1) (a := some a) (len := len) (cap := cap) ((zs.take len).map (Value.int .i64)) (fun hh => by cases hh) (fun x hx => by cases hx; exact ⟨g1, g2⟩) (by simp; omega) (fun x hx i w hw => by
    cases hx
    simp only [List.getElem?_map, Option.map_eq_some_iff] at hw
    obtain ⟨z, hz, rfl⟩ := hw
    have hil : i < len := by
     have := (List.getElem?_eq_some_iff.1 hz).1
     simp at this; omega
    rw [List.getElem?_take_of_lt hil] at hz
    rw [hcell i (by omega), List.getD_eq_getElem?_getD, hz]
    rfl) hlc (by rw [List.all_eq_true]; intro w hw; obtain ⟨z, _, rfl⟩ := List.mem_map.1 hw; rfl)
   have hl : (zs.take len).length = len := by simp; omega
   exact ⟨zs.take len, av, H1, μ1, q1, q2, q3, by rw [hl]; exact q4, q5⟩
 obtain ⟨xs, vN, H1, μ1, s1, s2, s3, s4, s5⟩ := sN
 have sA : ∃ (bs : List Bool) (vA : Value) (H2 : AHeap) (μ2 : PMap), ArgSt P W μ2 H2 ∧ Sub μ1 μ2 ∧ VRel μ2 vA v2 ∧ Rd H2 e2 1 vA bs.length (bs.map Value.bool) ∧ Stay none H1 H2 := by
  rcases Go.Deep.open_bools t2 u2 c2 r2 with ⟨hh, _⟩ | ⟨a, len, cap, B, hh, _, hlc, _, _, hcell⟩
  ·simp only [List.cons.injEq, and_true] at hh
   subst hh
   exact ⟨[], .slice none 0 0, H1, μ1, s1, Sub.refl μ1, .base _ rfl, ⟨rfl, .inl ⟨rfl, .inl rfl⟩⟩, Stay.refl _ _⟩
  ·simp only [List.cons.injEq, and_true] at hh
   subst hh
   obtain ⟨g1, g2⟩ := cell_slice t2 ok2
   obtain ⟨av, H2, μ2, q1, q2, q3, q4, q5, _⟩ := s1.slice (e := e2) (a := some a) (len := len) (cap := cap) (((List.range len).map B).map Value.bool) (fun hh => by cases hh) (fun x hx => by cases hx; exact ⟨g1, g2⟩) (by simp) (fun x hx i w hw => by
    cases hx
    simp only [List.getElem?_map, Option.map_eq_some_iff] at hw
    obtain ⟨z, ⟨j, hj, rfl⟩, rfl⟩ := hw
    have hil : i < len := by
     have := (List.getElem?_eq_some_iff.1 hj).1
     simpa using this
    rw [List.getElem?_range hil] at hj
    cases hj
    exact hcell i (by omega)) hlc (by rw [List.all_eq_true]; intro w hw; obtain ⟨z, _, rfl⟩ := List.mem_map.1 hw; rfl)
   have hl : ((List.range len).map B).length = len := by simp
   exact ⟨(List.range len).map B, av, H2, μ2, q1, q2, q3, by rw [hl]; exact q4, q5⟩
 obtain ⟨bs, vA, H2, μ2, w1, w2, w3, w4, w5⟩ := sA
 subst hk
 exact ⟨k, xs, bs, vN, vA, H2, μ2, w1, s2.trans w2, VRel.mk_agg (LRel.cons (.base _ rfl) (LRel.cons (s3.mono w2) (LRel.cons w3 (LRel.nil _)))), s4.stay w5, w4, s5.trans w5⟩
end Go.Proofs.Ythjkodbinkiifaa.Am
namespace Go.Proofs.Ythjkodbinkiifaa.Am
open Go Go.RowKit Go.ChangeShapes Go.WideShapes

end Go.Proofs.Ythjkodbinkiifaa.Am
namespace Go.Proofs.Ythjkodbinkiifaa.Am
open Go
abbrev vo (cs : List Value) (e : TypeId) : AObj := .cells cs e cs.length .var
abbrev wo (cs : List Value) (e : TypeId) : AObj := .cells cs e cs.length .row
theorem ai {a b : Prop} (h : a) (k : b) : a ∧ b := ⟨h, k⟩
theorem lp_of2 {C : Cfg} {fn : AFunc} {i prot : Nat} {H0 : AHeap} {s : LS} (hs : List Hint) {r : LS ⊕ LO} {c : Prop} (h : c) (e : c = plp C fn i prot H0 s hs r) : lpOf C fn i prot H0 s = some r := loop_of hs (e.mp h)
theorem fn_of2 {C : Cfg} {f : FuncId} (fn : AFunc) {args : List Value} {prot : Nat} {H : AHeap} (hs : List Hint) {v : Value} {H' : AHeap} {c : Prop} (h : c) (e : c = pcall C fn args prot H hs v H')
  (hf : C.code f = some fn) (hm : fn.memo = none := by rfl) : callInf C f args prot H = some (v, H') := call_of hf hm hs (e.mp h)
end Go.Proofs.Ythjkodbinkiifaa.Am
set_option linter.unusedVariables false
open Go Go.Proofs.Ythjkodbinkiifaa.Am
namespace Go.Proofs.Ythjkodbinkiifaa.Am23
section
variable {x0a x9 x13 x30 x3 x4 x45 x52 : Int}
variable {x0ba x0ca x6a x26a x36a x42a x49a : Option Addr}
variable {x0bn x0bc x0cn x0cc prot x6n x6c x26n x26c x1p x1o x1l x36n x36c x42n x42c x44p x44o x44l x49n x49c x51p x51o x51l : Nat}
variable {H H1 H0 : AHeap}
variable {z2 : Value}
theorem f35_F_0 (h1 : [vI x0a, vS x0ba x0bn x0bc, vS x0ca x0cn x0cc].all isCell = true) (h2 : getCells (H ++ [vo [vI x0a, vS x0ba x0bn x0bc, vS x0ca x0cn x0cc] 25]) H.length 3 (0 + 2) 1 = some [vS x6a x6n x6c]) (h3 : getCells (H ++ [vo [vI x0a, vS x0ba x0bn x0bc, vS x0ca x0cn x0cc] 25]) H.length 3 (0 + 0) 1 = some [vI x9]) (h4 : x9 < 1) : callInf cfg 35 [.agg #[.int .i64 x0a, .slice x0ba x0bn x0bc, .slice x0ca x0cn x0cc]] prot H = some (Value.int .i64 80, H) :=
 fn_of2 a35 [.e, .v (vS x6a x6n x6c), .e, .v (vI x9), .e, .b true, .b true, .b true, .b true, .b true, .b true, .b true, .b true, .b true, .b true, .b true, .b true, .b true, .b true, .b true, .b true, .b true, .b true, .b true, .b true] (ai h1 (ai h2 (ai h3 (ai (decide_eq_true h4) (ai (decide_eq_true h4) (ai (decide_eq_true h4) (ai (decide_eq_true h4) (ai (Eq.refl true) (ai (Eq.refl true) (ai (Eq.refl true) (ai (Eq.refl true) (ai (Eq.refl true) (ai (Eq.refl true) (ai (Eq.refl true) (ai (Eq.refl true) (ai (Eq.refl true) (ai (Eq.refl true) (ai (Eq.refl true) (ai (Eq.refl true) (ai (Eq.refl true) (ai (Eq.refl true) (ai (Eq.refl true) (ai (Eq.refl true) (Eq.refl ((vI 80, H) : Value × AHeap))))))))))))))))))))))))) (by kernel_rfl) rfl
theorem f35_F_1 (h1 : [vI x0a, vS x0ba x0bn x0bc, vS x0ca x0cn x0cc].all isCell = true) (h2 : getCells (H ++ [vo [vI x0a, vS x0ba x0bn x0bc, vS x0ca x0cn x0cc] 25]) H.length 3 (0 + 2) 1 = some [vS x6a x6n x6c]) (h3 : getCells (H ++ [vo [vI x0a, vS x0ba x0bn x0bc, vS x0ca x0cn x0cc] 25]) H.length 3 (0 + 0) 1 = some [vI x9]) (h4 : ¬(x9 < 1)) (h5 : getCells (H ++ [vo [vI x0a, vS x0ba x0bn x0bc, vS x0ca x0cn x0cc] 25]) H.length 3 (0 + 0) 1 = some [vI x13]) (h6 : x13 > 8) : callInf cfg 35 [.agg #[.int .i64 x0a, .slice x0ba x0bn x0bc, .slice x0ca x0cn x0cc]] prot H = some (Value.int .i64 80, H) :=
 fn_of2 a35 [.e, .v (vS x6a x6n x6c), .e, .v (vI x9), .e, .b false, .b false, .v (vI x13), .b false, .e, .b false, .b true, .b true, .b true, .b true, .b true, .b true, .b true, .b true, .b true, .b true, .b true, .b true, .b true, .b true, .b true, .b true] (ai h1 (ai h2 (ai h3 (ai (decide_eq_false h4) (ai (decide_eq_false h4) (ai h5 (ai (decide_eq_false h4) (ai (decide_eq_false h4) (ai (decide_eq_true h6) (ai (decide_eq_true h6) (ai (decide_eq_true h6) (ai (Eq.refl true) (ai (Eq.refl true) (ai (Eq.refl true) (ai (Eq.refl true) (ai (Eq.refl true) (ai (Eq.refl true) (ai (Eq.refl true) (ai (Eq.refl true) (ai (Eq.refl true) (ai (Eq.refl true) (ai (Eq.refl true) (ai (Eq.refl true) (ai (Eq.refl true) (Eq.refl ((vI 80, H) : Value × AHeap)))))))))))))))))))))))))) (by kernel_rfl) rfl
theorem f35_F_2 (h1 : [vI x0a, vS x0ba x0bn x0bc, vS x0ca x0cn x0cc].all isCell = true) (h2 : getCells (H ++ [vo [vI x0a, vS x0ba x0bn x0bc, vS x0ca x0cn x0cc] 25]) H.length 3 (0 + 2) 1 = some [vS x6a x6n x6c]) (h3 : getCells (H ++ [vo [vI x0a, vS x0ba x0bn x0bc, vS x0ca x0cn x0cc] 25]) H.length 3 (0 + 0) 1 = some [vI x9]) (h4 : ¬(x9 < 1)) (h5 : getCells (H ++ [vo [vI x0a, vS x0ba x0bn x0bc, vS x0ca x0cn x0cc] 25]) H.length 3 (0 + 0) 1 = some [vI x13]) (h6 : ¬(x13 > 8)) (h7 : (↑x6n : Int) < 1) : callInf cfg 35 [.agg #[.int .i64 x0a, .slice x0ba x0bn x0bc, .slice x0ca x0cn x0cc]] prot H = some (Value.int .i64 80, H) :=
 fn_of2 a35 [.e, .v (vS x6a x6n x6c), .e, .v (vI x9), .e, .b false, .b false, .v (vI x13), .b false, .e, .b false, .b false, .b false, .e, .b false, .b true, .b true, .b true, .b true, .b true, .b true, .b true, .b true, .b true, .b true, .b true, .b true, .b true] (ai h1 (ai h2 (ai h3 (ai (decide_eq_false h4) (ai (decide_eq_false h4) (ai h5 (ai (decide_eq_false h4) (ai (decide_eq_false h4) (ai (decide_eq_false h6) (ai (decide_eq_false h6) (ai (decide_eq_false h6) (ai (decide_eq_true h7) (ai (decide_eq_true h7) (ai (decide_eq_true h7) (ai (Eq.refl true) (ai (Eq.refl true) (ai (Eq.refl true) (ai (Eq.refl true) (ai (Eq.refl true) (ai (Eq.refl true) (ai (Eq.refl true) (ai (Eq.refl true) (ai (Eq.refl true) (ai (Eq.refl true) (Eq.refl ((vI 80, H) : Value × AHeap)))))))))))))))))))))))))) (by kernel_rfl) rfl
theorem f35_F_3 (h1 : [vI x0a, vS x0ba x0bn x0bc, vS x0ca x0cn x0cc].all isCell = true) (h2 : getCells (H ++ [vo [vI x0a, vS x0ba x0bn x0bc, vS x0ca x0cn x0cc] 25]) H.length 3 (0 + 2) 1 = some [vS x6a x6n x6c]) (h3 : getCells (H ++ [vo [vI x0a, vS x0ba x0bn x0bc, vS x0ca x0cn x0cc] 25]) H.length 3 (0 + 0) 1 = some [vI x9]) (h4 : ¬(x9 < 1)) (h5 : getCells (H ++ [vo [vI x0a, vS x0ba x0bn x0bc, vS x0ca x0cn x0cc] 25]) H.length 3 (0 + 0) 1 = some [vI x13]) (h6 : ¬(x13 > 8)) (h7 : ¬((↑x6n : Int) < 1)) (h8 : (↑x6n : Int) > 4096) : callInf cfg 35 [.agg #[.int .i64 x0a, .slice x0ba x0bn x0bc, .slice x0ca x0cn x0cc]] prot H = some (Value.int .i64 80, H) :=
 fn_of2 a35 [.e, .v (vS x6a x6n x6c), .e, .v (vI x9), .e, .b false, .b false, .v (vI x13), .b false, .e, .b false, .b false, .b false, .e, .b false, .b false, .b false, .e, .b false, .b true, .b true, .b true, .b true, .b true, .b true, .b true, .b true, .b true, .b true] (ai h1 (ai h2 (ai h3 (ai (decide_eq_false h4) (ai (decide_eq_false h4) (ai h5 (ai (decide_eq_false h4) (ai (decide_eq_false h4) (ai (decide_eq_false h6) (ai (decide_eq_false h6) (ai (decide_eq_false h6) (ai (decide_eq_false h7) (ai (decide_eq_false h7) (ai (decide_eq_false h7) (ai (decide_eq_true h8) (ai (decide_eq_true h8) (ai (decide_eq_true h8) (ai (decide_eq_true h8) (ai (decide_eq_true h8) (ai (decide_eq_true h8) (ai (decide_eq_true h8) (ai (decide_eq_true h8) (ai (decide_eq_true h8) (ai (Eq.refl true) (Eq.refl ((vI 80, H) : Value × AHeap)))))))))))))))))))))))))) (by kernel_rfl) rfl
theorem f35_F_4 (h1 : [vI x0a, vS x0ba x0bn x0bc, vS x0ca x0cn x0cc].all isCell = true) (h2 : getCells (H ++ [vo [vI x0a, vS x0ba x0bn x0bc, vS x0ca x0cn x0cc] 25]) H.length 3 (0 + 2) 1 = some [vS x6a x6n x6c]) (h3 : getCells (H ++ [vo [vI x0a, vS x0ba x0bn x0bc, vS x0ca x0cn x0cc] 25]) H.length 3 (0 + 0) 1 = some [vI x9]) (h4 : ¬(x9 < 1)) (h5 : getCells (H ++ [vo [vI x0a, vS x0ba x0bn x0bc, vS x0ca x0cn x0cc] 25]) H.length 3 (0 + 0) 1 = some [vI x13]) (h6 : ¬(x13 > 8)) (h7 : ¬((↑x6n : Int) < 1)) (h8 : ¬((↑x6n : Int) > 4096)) (h9 : getCells (H ++ [vo [vI x0a, vS x0ba x0bn x0bc, vS x0ca x0cn x0cc] 25]) H.length 3 (0 + 1) 1 = some [vS x26a x26n x26c]) (h10 : getCells (H ++ [vo [vI x0a, vS x0ba x0bn x0bc, vS x0ca x0cn x0cc] 25]) H.length 3 (0 + 0) 1 = some [vI x30]) (h11 : Fit .i64 ((↑x6n : Int) * x30)) (h12 : ((↑x26n : Int) != (↑x6n : Int) * x30) = true) : callInf cfg 35 [.agg #[.int .i64 x0a, .slice x0ba x0bn x0bc, .slice x0ca x0cn x0cc]] prot H = some (Value.int .i64 80, H) :=
 fn_of2 a35 [.e, .v (vS x6a x6n x6c), .e, .v (vI x9), .e, .b false, .b false, .v (vI x13), .b false, .e, .b false, .b false, .b false, .e, .b false, .b false, .b false, .e, .b false, .b false, .b false, .v (vS x26a x26n x26c), .b false, .e, .b false, .b false, .b false, .v (vI x30), .b false, .e, .b false, .e, .b false, .b true] (ai h1 (ai h2 (ai h3 (ai (decide_eq_false h4) (ai (decide_eq_false h4) (ai h5 (ai (decide_eq_false h4) (ai (decide_eq_false h4) (ai (decide_eq_false h6) (ai (decide_eq_false h6) (ai (decide_eq_false h6) (ai (decide_eq_false h7) (ai (decide_eq_false h7) (ai (decide_eq_false h7) (ai (decide_eq_false h8) (ai (decide_eq_false h8) (ai h9 (ai (decide_eq_false h8) (ai (decide_eq_false h8) (ai (decide_eq_false h8) (ai (decide_eq_false h8) (ai h10 (ai (decide_eq_false h8) (ai h11 (ai (decide_eq_false h8) (ai (decide_eq_false h8) (ai h12 (Eq.refl ((vI 80, H) : Value × AHeap))))))))))))))))))))))))))))) (by kernel_rfl) rfl
theorem f35_F_5 (h1 : [vI x0a, vS x0ba x0bn x0bc, vS x0ca x0cn x0cc].all isCell = true) (h2 : getCells (H ++ [vo [vI x0a, vS x0ba x0bn x0bc, vS x0ca x0cn x0cc] 25]) H.length 3 (0 + 2) 1 = some [vS x6a x6n x6c]) (h3 : getCells (H ++ [vo [vI x0a, vS x0ba x0bn x0bc, vS x0ca x0cn x0cc] 25]) H.length 3 (0 + 0) 1 = some [vI x9]) (h4 : ¬(x9 < 1)) (h5 : getCells (H ++ [vo [vI x0a, vS x0ba x0bn x0bc, vS x0ca x0cn x0cc] 25]) H.length 3 (0 + 0) 1 = some [vI x13]) (h6 : ¬(x13 > 8)) (h7 : ¬((↑x6n : Int) < 1)) (h8 : ¬((↑x6n : Int) > 4096)) (h9 : getCells (H ++ [vo [vI x0a, vS x0ba x0bn x0bc, vS x0ca x0cn x0cc] 25]) H.length 3 (0 + 1) 1 = some [vS x26a x26n x26c]) (h10 : getCells (H ++ [vo [vI x0a, vS x0ba x0bn x0bc, vS x0ca x0cn x0cc] 25]) H.length 3 (0 + 0) 1 = some [vI x30]) (h11 : Fit .i64 ((↑x6n : Int) * x30)) (h12 : ((↑x26n : Int) != (↑x6n : Int) * x30) = false) (h13 : lI a35 0 prot H ([vP H.length 0 3, vI (↑x6n : Int), vI 0], H ++ [vo [vI x0a, vS x0ba x0bn x0bc, vS x0ca x0cn x0cc] 25]) = some (Ex.exit 0, [z2], H1)) : callInf cfg 35 [.agg #[.int .i64 x0a, .slice x0ba x0bn x0bc, .slice x0ca x0cn x0cc]] prot H = some (Value.int .i64 0, H) :=
 fn_of2 a35 [.e, .v (vS x6a x6n x6c), .e, .v (vI x9), .e, .b false, .b false, .v (vI x13), .b false, .e, .b false, .b false, .b false, .e, .b false, .b false, .b false, .e, .b false, .b false, .b false, .v (vS x26a x26n x26c), .b false, .e, .b false, .b false, .b false, .v (vI x30), .b false, .e, .b false, .e, .b false, .b false, .lo (.exit 0, [z2], H1)] (ai h1 (ai h2 (ai h3 (ai (decide_eq_false h4) (ai (decide_eq_false h4) (ai h5 (ai (decide_eq_false h4) (ai (decide_eq_false h4) (ai (decide_eq_false h6) (ai (decide_eq_false h6) (ai (decide_eq_false h6) (ai (decide_eq_false h7) (ai (decide_eq_false h7) (ai (decide_eq_false h7) (ai (decide_eq_false h8) (ai (decide_eq_false h8) (ai h9 (ai (decide_eq_false h8) (ai (decide_eq_false h8) (ai (decide_eq_false h8) (ai (decide_eq_false h8) (ai h10 (ai (decide_eq_false h8) (ai h11 (ai (decide_eq_false h8) (ai (decide_eq_false h8) (ai h12 (ai h13 (Eq.refl ((vI 0, H) : Value × AHeap)))))))))))))))))))))))))))))) (by kernel_rfl) rfl
theorem f35_F_6 {z2 : Int} (h1 : [vI x0a, vS x0ba x0bn x0bc, vS x0ca x0cn x0cc].all isCell = true) (h2 : getCells (H ++ [vo [vI x0a, vS x0ba x0bn x0bc, vS x0ca x0cn x0cc] 25]) H.length 3 (0 + 2) 1 = some [vS x6a x6n x6c]) (h3 : getCells (H ++ [vo [vI x0a, vS x0ba x0bn x0bc, vS x0ca x0cn x0cc] 25]) H.length 3 (0 + 0) 1 = some [vI x9]) (h4 : ¬(x9 < 1)) (h5 : getCells (H ++ [vo [vI x0a, vS x0ba x0bn x0bc, vS x0ca x0cn x0cc] 25]) H.length 3 (0 + 0) 1 = some [vI x13]) (h6 : ¬(x13 > 8)) (h7 : ¬((↑x6n : Int) < 1)) (h8 : ¬((↑x6n : Int) > 4096)) (h9 : getCells (H ++ [vo [vI x0a, vS x0ba x0bn x0bc, vS x0ca x0cn x0cc] 25]) H.length 3 (0 + 1) 1 = some [vS x26a x26n x26c]) (h10 : getCells (H ++ [vo [vI x0a, vS x0ba x0bn x0bc, vS x0ca x0cn x0cc] 25]) H.length 3 (0 + 0) 1 = some [vI x30]) (h11 : Fit .i64 ((↑x6n : Int) * x30)) (h12 : ((↑x26n : Int) != (↑x6n : Int) * x30) = false) (h13 : lI a35 0 prot H ([vP H.length 0 3, vI (↑x6n : Int), vI 0], H ++ [vo [vI x0a, vS x0ba x0bn x0bc, vS x0ca x0cn x0cc] 25]) = some (Ex.ret, [vI z2], H1)) : callInf cfg 35 [.agg #[.int .i64 x0a, .slice x0ba x0bn x0bc, .slice x0ca x0cn x0cc]] prot H = some (Value.int .i64 z2, H) :=
 fn_of2 a35 [.e, .v (vS x6a x6n x6c), .e, .v (vI x9), .e, .b false, .b false, .v (vI x13), .b false, .e, .b false, .b false, .b false, .e, .b false, .b false, .b false, .e, .b false, .b false, .b false, .v (vS x26a x26n x26c), .b false, .e, .b false, .b false, .b false, .v (vI x30), .b false, .e, .b false, .e, .b false, .b false, .lo (.ret, [vI z2], H1)] (ai h1 (ai h2 (ai h3 (ai (decide_eq_false h4) (ai (decide_eq_false h4) (ai h5 (ai (decide_eq_false h4) (ai (decide_eq_false h4) (ai (decide_eq_false h6) (ai (decide_eq_false h6) (ai (decide_eq_false h6) (ai (decide_eq_false h7) (ai (decide_eq_false h7) (ai (decide_eq_false h7) (ai (decide_eq_false h8) (ai (decide_eq_false h8) (ai h9 (ai (decide_eq_false h8) (ai (decide_eq_false h8) (ai (decide_eq_false h8) (ai (decide_eq_false h8) (ai h10 (ai (decide_eq_false h8) (ai h11 (ai (decide_eq_false h8) (ai (decide_eq_false h8) (ai h12 (ai h13 (Eq.refl ((vI z2, H) : Value × AHeap)))))))))))))))))))))))))))))) (by kernel_rfl) rfl
theorem f35_L0_0 (h1 : getCells H x1p x1l (x1o + 1) 1 = some [vS x36a x36n x36c]) (h2 : x4 < (↑x36n : Int)) (h3 : getCells H x1p x1l (x1o + 1) 1 = some [vS x42a x42n x42c]) (h4 : aX 22 (vS x42a x42n x42c) (vI x4) = some (vP x44p x44o x44l)) (h5 : getCells H x44p x44l x44o 1 = some [vI x45]) (h6 : x45 < 0) : lpOf cfg a35 0 prot H0 ([.pointer (some ⟨x1p, x1o, some x1l⟩), .int .i64 x3, .int .i64 x4], H) = some (Sum.inr (Ex.ret, [Value.int .i64 80], H)) :=
 lp_of2 [.v (vS x36a x36n x36c), .e, .e, .b true, .v (vS x42a x42n x42c), .v (vP x44p x44o x44l), .v (vI x45), .e, .b true, .b true, .b true, .b true, .b true, .b true, .b true, .b true, .b true] (ai h1 (ai (decide_eq_true h2) (ai h3 (ai h4 (ai h5 (ai (decide_eq_true h6) (ai (decide_eq_true h6) (ai (decide_eq_true h6) (ai (decide_eq_true h6) (ai (decide_eq_true h6) (ai (decide_eq_true h6) (ai (decide_eq_true h6) (ai (decide_eq_true h6) (ai (Eq.refl true) (Eq.refl (Sum.inr (Ex.ret, [vI 80], H) : LS ⊕ LO)))))))))))))))) (by kernel_rfl)
theorem f35_L0_1 (h1 : getCells H x1p x1l (x1o + 1) 1 = some [vS x36a x36n x36c]) (h2 : x4 < (↑x36n : Int)) (h3 : getCells H x1p x1l (x1o + 1) 1 = some [vS x42a x42n x42c]) (h4 : aX 22 (vS x42a x42n x42c) (vI x4) = some (vP x44p x44o x44l)) (h5 : getCells H x44p x44l x44o 1 = some [vI x45]) (h6 : ¬(x45 < 0)) (h7 : getCells H x1p x1l (x1o + 1) 1 = some [vS x49a x49n x49c]) (h8 : aX 22 (vS x49a x49n x49c) (vI x4) = some (vP x51p x51o x51l)) (h9 : getCells H x51p x51l x51o 1 = some [vI x52]) (h10 : x52 ≥ x3) : lpOf cfg a35 0 prot H0 ([.pointer (some ⟨x1p, x1o, some x1l⟩), .int .i64 x3, .int .i64 x4], H) = some (Sum.inr (Ex.ret, [Value.int .i64 80], H)) :=
 lp_of2 [.v (vS x36a x36n x36c), .e, .e, .b true, .v (vS x42a x42n x42c), .v (vP x44p x44o x44l), .v (vI x45), .e, .b false, .b false, .v (vS x49a x49n x49c), .b false, .b false, .v (vP x51p x51o x51l), .b false, .v (vI x52), .b false, .b false, .e, .b false, .b true] (ai h1 (ai (decide_eq_true h2) (ai h3 (ai h4 (ai h5 (ai (decide_eq_false h6) (ai (decide_eq_false h6) (ai h7 (ai (decide_eq_false h6) (ai (decide_eq_false h6) (ai h8 (ai (decide_eq_false h6) (ai h9 (ai (decide_eq_false h6) (ai (decide_eq_false h6) (ai (decide_eq_false h6) (ai (decide_eq_true h10) (Eq.refl (Sum.inr (Ex.ret, [vI 80], H) : LS ⊕ LO))))))))))))))))))) (by kernel_rfl)
theorem f35_L0_2 (h1 : getCells H x1p x1l (x1o + 1) 1 = some [vS x36a x36n x36c]) (h2 : x4 < (↑x36n : Int)) (h3 : getCells H x1p x1l (x1o + 1) 1 = some [vS x42a x42n x42c]) (h4 : aX 22 (vS x42a x42n x42c) (vI x4) = some (vP x44p x44o x44l)) (h5 : getCells H x44p x44l x44o 1 = some [vI x45]) (h6 : ¬(x45 < 0)) (h7 : getCells H x1p x1l (x1o + 1) 1 = some [vS x49a x49n x49c]) (h8 : aX 22 (vS x49a x49n x49c) (vI x4) = some (vP x51p x51o x51l)) (h9 : getCells H x51p x51l x51o 1 = some [vI x52]) (h10 : ¬(x52 ≥ x3)) (h11 : Fit .i64 (x4 + 1)) : lpOf cfg a35 0 prot H0 ([.pointer (some ⟨x1p, x1o, some x1l⟩), .int .i64 x3, .int .i64 x4], H) = some (Sum.inl ([Value.pointer (some ⟨x1p, x1o, some x1l⟩), Value.int .i64 x3, Value.int .i64 (x4 + 1)], H)) :=
 lp_of2 [.v (vS x36a x36n x36c), .e, .e, .b true, .v (vS x42a x42n x42c), .v (vP x44p x44o x44l), .v (vI x45), .e, .b false, .b false, .v (vS x49a x49n x49c), .b false, .b false, .v (vP x51p x51o x51l), .b false, .v (vI x52), .b false, .b false, .e, .b false, .b false, .e] (ai h1 (ai (decide_eq_true h2) (ai h3 (ai h4 (ai h5 (ai (decide_eq_false h6) (ai (decide_eq_false h6) (ai h7 (ai (decide_eq_false h6) (ai (decide_eq_false h6) (ai h8 (ai (decide_eq_false h6) (ai h9 (ai (decide_eq_false h6) (ai (decide_eq_false h6) (ai (decide_eq_false h6) (ai (decide_eq_false h10) (ai h11 (Eq.refl (Sum.inl ([vP x1p x1o x1l, vI x3, vI (x4 + 1)], H) : LS ⊕ LO)))))))))))))))))))) (by kernel_rfl)
theorem f35_L0_3 (h1 : getCells H x1p x1l (x1o + 1) 1 = some [vS x36a x36n x36c]) (h2 : ¬(x4 < (↑x36n : Int))) : lpOf cfg a35 0 prot H0 ([.pointer (some ⟨x1p, x1o, some x1l⟩), .int .i64 x3, .int .i64 x4], H) = some (Sum.inr (Ex.exit 0, [Value.tuple { toList := [] }], H)) :=
 lp_of2 [.v (vS x36a x36n x36c), .e, .e, .b false] (ai h1 (ai (decide_eq_false h2) (Eq.refl (Sum.inr (Ex.exit 0, [Value.tuple #[]], H) : LS ⊕ LO)))) (by kernel_rfl)
end
end Go.Proofs.Ythjkodbinkiifaa.Am23
set_option linter.unusedVariables false
open Go Go.Proofs.Ythjkodbinkiifaa.Am
namespace Go.Proofs.Ythjkodbinkiifaa.Am23
section
variable {x0a x10 x14 x31 x3 x37 x38 x41 : Int}
variable {x0ba x0ca x7a x27a x36a : Option Addr}
variable {x0bn x0bc x0cn x0cc prot x7n x7c x27n x27c x36n x36c x40p x40o x40l : Nat}
variable {H H1 H0 : AHeap}
variable {z2 : Value}
theorem f64_F_0 (h1 : [vI x0a, vS x0ba x0bn x0bc, vS x0ca x0cn x0cc].all isCell = true) (h2 : getCells (H ++ [vo [vI x0a, vS x0ba x0bn x0bc, vS x0ca x0cn x0cc] 25]) H.length 3 (0 + 2) 1 = some [vS x7a x7n x7c]) (h3 : getCells (H ++ [vo [vI x0a, vS x0ba x0bn x0bc, vS x0ca x0cn x0cc] 25]) H.length 3 (0 + 0) 1 = some [vI x10]) (h4 : x10 < 1) : callInf cfg 64 [.agg #[.int .i64 x0a, .slice x0ba x0bn x0bc, .slice x0ca x0cn x0cc]] prot H = some (Value.int .i64 80, H) :=
 fn_of2 a64 [.e, .v (vS x7a x7n x7c), .e, .v (vI x10), .e, .b true, .b true, .b true, .b true, .b true, .b true, .b true, .b true, .b true, .b true, .b true, .b true, .b true, .b true, .b true, .b true, .b true, .b true, .b true, .b true] (ai h1 (ai h2 (ai h3 (ai (decide_eq_true h4) (ai (decide_eq_true h4) (ai (decide_eq_true h4) (ai (decide_eq_true h4) (ai (Eq.refl true) (ai (Eq.refl true) (ai (Eq.refl true) (ai (Eq.refl true) (ai (Eq.refl true) (ai (Eq.refl true) (ai (Eq.refl true) (ai (Eq.refl true) (ai (Eq.refl true) (ai (Eq.refl true) (ai (Eq.refl true) (ai (Eq.refl true) (ai (Eq.refl true) (ai (Eq.refl true) (ai (Eq.refl true) (ai (Eq.refl true) (Eq.refl ((vI 80, H) : Value × AHeap))))))))))))))))))))))))) (by kernel_rfl) rfl
theorem f64_F_1 (h1 : [vI x0a, vS x0ba x0bn x0bc, vS x0ca x0cn x0cc].all isCell = true) (h2 : getCells (H ++ [vo [vI x0a, vS x0ba x0bn x0bc, vS x0ca x0cn x0cc] 25]) H.length 3 (0 + 2) 1 = some [vS x7a x7n x7c]) (h3 : getCells (H ++ [vo [vI x0a, vS x0ba x0bn x0bc, vS x0ca x0cn x0cc] 25]) H.length 3 (0 + 0) 1 = some [vI x10]) (h4 : ¬(x10 < 1)) (h5 : getCells (H ++ [vo [vI x0a, vS x0ba x0bn x0bc, vS x0ca x0cn x0cc] 25]) H.length 3 (0 + 0) 1 = some [vI x14]) (h6 : x14 > 8) : callInf cfg 64 [.agg #[.int .i64 x0a, .slice x0ba x0bn x0bc, .slice x0ca x0cn x0cc]] prot H = some (Value.int .i64 80, H) :=
 fn_of2 a64 [.e, .v (vS x7a x7n x7c), .e, .v (vI x10), .e, .b false, .b false, .v (vI x14), .b false, .e, .b false, .b true, .b true, .b true, .b true, .b true, .b true, .b true, .b true, .b true, .b true, .b true, .b true, .b true, .b true, .b true, .b true] (ai h1 (ai h2 (ai h3 (ai (decide_eq_false h4) (ai (decide_eq_false h4) (ai h5 (ai (decide_eq_false h4) (ai (decide_eq_false h4) (ai (decide_eq_true h6) (ai (decide_eq_true h6) (ai (decide_eq_true h6) (ai (Eq.refl true) (ai (Eq.refl true) (ai (Eq.refl true) (ai (Eq.refl true) (ai (Eq.refl true) (ai (Eq.refl true) (ai (Eq.refl true) (ai (Eq.refl true) (ai (Eq.refl true) (ai (Eq.refl true) (ai (Eq.refl true) (ai (Eq.refl true) (ai (Eq.refl true) (Eq.refl ((vI 80, H) : Value × AHeap)))))))))))))))))))))))))) (by kernel_rfl) rfl
theorem f64_F_2 (h1 : [vI x0a, vS x0ba x0bn x0bc, vS x0ca x0cn x0cc].all isCell = true) (h2 : getCells (H ++ [vo [vI x0a, vS x0ba x0bn x0bc, vS x0ca x0cn x0cc] 25]) H.length 3 (0 + 2) 1 = some [vS x7a x7n x7c]) (h3 : getCells (H ++ [vo [vI x0a, vS x0ba x0bn x0bc, vS x0ca x0cn x0cc] 25]) H.length 3 (0 + 0) 1 = some [vI x10]) (h4 : ¬(x10 < 1)) (h5 : getCells (H ++ [vo [vI x0a, vS x0ba x0bn x0bc, vS x0ca x0cn x0cc] 25]) H.length 3 (0 + 0) 1 = some [vI x14]) (h6 : ¬(x14 > 8)) (h7 : (↑x7n : Int) < 1) : callInf cfg 64 [.agg #[.int .i64 x0a, .slice x0ba x0bn x0bc, .slice x0ca x0cn x0cc]] prot H = some (Value.int .i64 80, H) :=
 fn_of2 a64 [.e, .v (vS x7a x7n x7c), .e, .v (vI x10), .e, .b false, .b false, .v (vI x14), .b false, .e, .b false, .b false, .b false, .e, .b false, .b true, .b true, .b true, .b true, .b true, .b true, .b true, .b true, .b true, .b true, .b true, .b true, .b true] (ai h1 (ai h2 (ai h3 (ai (decide_eq_false h4) (ai (decide_eq_false h4) (ai h5 (ai (decide_eq_false h4) (ai (decide_eq_false h4) (ai (decide_eq_false h6) (ai (decide_eq_false h6) (ai (decide_eq_false h6) (ai (decide_eq_true h7) (ai (decide_eq_true h7) (ai (decide_eq_true h7) (ai (Eq.refl true) (ai (Eq.refl true) (ai (Eq.refl true) (ai (Eq.refl true) (ai (Eq.refl true) (ai (Eq.refl true) (ai (Eq.refl true) (ai (Eq.refl true) (ai (Eq.refl true) (ai (Eq.refl true) (Eq.refl ((vI 80, H) : Value × AHeap)))))))))))))))))))))))))) (by kernel_rfl) rfl
theorem f64_F_3 (h1 : [vI x0a, vS x0ba x0bn x0bc, vS x0ca x0cn x0cc].all isCell = true) (h2 : getCells (H ++ [vo [vI x0a, vS x0ba x0bn x0bc, vS x0ca x0cn x0cc] 25]) H.length 3 (0 + 2) 1 = some [vS x7a x7n x7c]) (h3 : getCells (H ++ [vo [vI x0a, vS x0ba x0bn x0bc, vS x0ca x0cn x0cc] 25]) H.length 3 (0 + 0) 1 = some [vI x10]) (h4 : ¬(x10 < 1)) (h5 : getCells (H ++ [vo [vI x0a, vS x0ba x0bn x0bc, vS x0ca x0cn x0cc] 25]) H.length 3 (0 + 0) 1 = some [vI x14]) (h6 : ¬(x14 > 8)) (h7 : ¬((↑x7n : Int) < 1)) (h8 : (↑x7n : Int) > 4096) : callInf cfg 64 [.agg #[.int .i64 x0a, .slice x0ba x0bn x0bc, .slice x0ca x0cn x0cc]] prot H = some (Value.int .i64 80, H) :=
 fn_of2 a64 [.e, .v (vS x7a x7n x7c), .e, .v (vI x10), .e, .b false, .b false, .v (vI x14), .b false, .e, .b false, .b false, .b false, .e, .b false, .b false, .b false, .e, .b false, .b true, .b true, .b true, .b true, .b true, .b true, .b true, .b true, .b true, .b true] (ai h1 (ai h2 (ai h3 (ai (decide_eq_false h4) (ai (decide_eq_false h4) (ai h5 (ai (decide_eq_false h4) (ai (decide_eq_false h4) (ai (decide_eq_false h6) (ai (decide_eq_false h6) (ai (decide_eq_false h6) (ai (decide_eq_false h7) (ai (decide_eq_false h7) (ai (decide_eq_false h7) (ai (decide_eq_true h8) (ai (decide_eq_true h8) (ai (decide_eq_true h8) (ai (decide_eq_true h8) (ai (decide_eq_true h8) (ai (decide_eq_true h8) (ai (decide_eq_true h8) (ai (decide_eq_true h8) (ai (decide_eq_true h8) (ai (Eq.refl true) (Eq.refl ((vI 80, H) : Value × AHeap)))))))))))))))))))))))))) (by kernel_rfl) rfl
theorem f64_F_4 (h1 : [vI x0a, vS x0ba x0bn x0bc, vS x0ca x0cn x0cc].all isCell = true) (h2 : getCells (H ++ [vo [vI x0a, vS x0ba x0bn x0bc, vS x0ca x0cn x0cc] 25]) H.length 3 (0 + 2) 1 = some [vS x7a x7n x7c]) (h3 : getCells (H ++ [vo [vI x0a, vS x0ba x0bn x0bc, vS x0ca x0cn x0cc] 25]) H.length 3 (0 + 0) 1 = some [vI x10]) (h4 : ¬(x10 < 1)) (h5 : getCells (H ++ [vo [vI x0a, vS x0ba x0bn x0bc, vS x0ca x0cn x0cc] 25]) H.length 3 (0 + 0) 1 = some [vI x14]) (h6 : ¬(x14 > 8)) (h7 : ¬((↑x7n : Int) < 1)) (h8 : ¬((↑x7n : Int) > 4096)) (h9 : getCells (H ++ [vo [vI x0a, vS x0ba x0bn x0bc, vS x0ca x0cn x0cc] 25]) H.length 3 (0 + 1) 1 = some [vS x27a x27n x27c]) (h10 : getCells (H ++ [vo [vI x0a, vS x0ba x0bn x0bc, vS x0ca x0cn x0cc] 25]) H.length 3 (0 + 0) 1 = some [vI x31]) (h11 : Fit .i64 ((↑x7n : Int) * x31)) (h12 : ((↑x27n : Int) != (↑x7n : Int) * x31) = true) : callInf cfg 64 [.agg #[.int .i64 x0a, .slice x0ba x0bn x0bc, .slice x0ca x0cn x0cc]] prot H = some (Value.int .i64 80, H) :=
 fn_of2 a64 [.e, .v (vS x7a x7n x7c), .e, .v (vI x10), .e, .b false, .b false, .v (vI x14), .b false, .e, .b false, .b false, .b false, .e, .b false, .b false, .b false, .e, .b false, .b false, .b false, .v (vS x27a x27n x27c), .b false, .e, .b false, .b false, .b false, .v (vI x31), .b false, .e, .b false, .e, .b false, .b true] (ai h1 (ai h2 (ai h3 (ai (decide_eq_false h4) (ai (decide_eq_false h4) (ai h5 (ai (decide_eq_false h4) (ai (decide_eq_false h4) (ai (decide_eq_false h6) (ai (decide_eq_false h6) (ai (decide_eq_false h6) (ai (decide_eq_false h7) (ai (decide_eq_false h7) (ai (decide_eq_false h7) (ai (decide_eq_false h8) (ai (decide_eq_false h8) (ai h9 (ai (decide_eq_false h8) (ai (decide_eq_false h8) (ai (decide_eq_false h8) (ai (decide_eq_false h8) (ai h10 (ai (decide_eq_false h8) (ai h11 (ai (decide_eq_false h8) (ai (decide_eq_false h8) (ai h12 (Eq.refl ((vI 80, H) : Value × AHeap))))))))))))))))))))))))))))) (by kernel_rfl) rfl
theorem f64_F_5 (h1 : [vI x0a, vS x0ba x0bn x0bc, vS x0ca x0cn x0cc].all isCell = true) (h2 : getCells (H ++ [vo [vI x0a, vS x0ba x0bn x0bc, vS x0ca x0cn x0cc] 25]) H.length 3 (0 + 2) 1 = some [vS x7a x7n x7c]) (h3 : getCells (H ++ [vo [vI x0a, vS x0ba x0bn x0bc, vS x0ca x0cn x0cc] 25]) H.length 3 (0 + 0) 1 = some [vI x10]) (h4 : ¬(x10 < 1)) (h5 : getCells (H ++ [vo [vI x0a, vS x0ba x0bn x0bc, vS x0ca x0cn x0cc] 25]) H.length 3 (0 + 0) 1 = some [vI x14]) (h6 : ¬(x14 > 8)) (h7 : ¬((↑x7n : Int) < 1)) (h8 : ¬((↑x7n : Int) > 4096)) (h9 : getCells (H ++ [vo [vI x0a, vS x0ba x0bn x0bc, vS x0ca x0cn x0cc] 25]) H.length 3 (0 + 1) 1 = some [vS x27a x27n x27c]) (h10 : getCells (H ++ [vo [vI x0a, vS x0ba x0bn x0bc, vS x0ca x0cn x0cc] 25]) H.length 3 (0 + 0) 1 = some [vI x31]) (h11 : Fit .i64 ((↑x7n : Int) * x31)) (h12 : ((↑x27n : Int) != (↑x7n : Int) * x31) = false) (h13 : getCells (H ++ [vo [vI x0a, vS x0ba x0bn x0bc, vS x0ca x0cn x0cc] 25]) H.length 3 (0 + 1) 1 = some [vS x36a x36n x36c]) (h14 : lI a64 0 prot H ([vI (↑x7n : Int), vS x36a x36n x36c, vI (↑x36n : Int), vI 0], H ++ [vo [vI x0a, vS x0ba x0bn x0bc, vS x0ca x0cn x0cc] 25]) = some (Ex.exit 0, [z2], H1)) : callInf cfg 64 [.agg #[.int .i64 x0a, .slice x0ba x0bn x0bc, .slice x0ca x0cn x0cc]] prot H = some (Value.int .i64 0, H) :=
 fn_of2 a64 [.e, .v (vS x7a x7n x7c), .e, .v (vI x10), .e, .b false, .b false, .v (vI x14), .b false, .e, .b false, .b false, .b false, .e, .b false, .b false, .b false, .e, .b false, .b false, .b false, .v (vS x27a x27n x27c), .b false, .e, .b false, .b false, .b false, .v (vI x31), .b false, .e, .b false, .e, .b false, .b false, .v (vS x36a x36n x36c), .e, .lo (.exit 0, [z2], H1)] (ai h1 (ai h2 (ai h3 (ai (decide_eq_false h4) (ai (decide_eq_false h4) (ai h5 (ai (decide_eq_false h4) (ai (decide_eq_false h4) (ai (decide_eq_false h6) (ai (decide_eq_false h6) (ai (decide_eq_false h6) (ai (decide_eq_false h7) (ai (decide_eq_false h7) (ai (decide_eq_false h7) (ai (decide_eq_false h8) (ai (decide_eq_false h8) (ai h9 (ai (decide_eq_false h8) (ai (decide_eq_false h8) (ai (decide_eq_false h8) (ai (decide_eq_false h8) (ai h10 (ai (decide_eq_false h8) (ai h11 (ai (decide_eq_false h8) (ai (decide_eq_false h8) (ai h12 (ai h13 (ai h14 (Eq.refl ((vI 0, H) : Value × AHeap))))))))))))))))))))))))))))))) (by kernel_rfl) rfl
theorem f64_F_6 {z2 : Int} (h1 : [vI x0a, vS x0ba x0bn x0bc, vS x0ca x0cn x0cc].all isCell = true) (h2 : getCells (H ++ [vo [vI x0a, vS x0ba x0bn x0bc, vS x0ca x0cn x0cc] 25]) H.length 3 (0 + 2) 1 = some [vS x7a x7n x7c]) (h3 : getCells (H ++ [vo [vI x0a, vS x0ba x0bn x0bc, vS x0ca x0cn x0cc] 25]) H.length 3 (0 + 0) 1 = some [vI x10]) (h4 : ¬(x10 < 1)) (h5 : getCells (H ++ [vo [vI x0a, vS x0ba x0bn x0bc, vS x0ca x0cn x0cc] 25]) H.length 3 (0 + 0) 1 = some [vI x14]) (h6 : ¬(x14 > 8)) (h7 : ¬((↑x7n : Int) < 1)) (h8 : ¬((↑x7n : Int) > 4096)) (h9 : getCells (H ++ [vo [vI x0a, vS x0ba x0bn x0bc, vS x0ca x0cn x0cc] 25]) H.length 3 (0 + 1) 1 = some [vS x27a x27n x27c]) (h10 : getCells (H ++ [vo [vI x0a, vS x0ba x0bn x0bc, vS x0ca x0cn x0cc] 25]) H.length 3 (0 + 0) 1 = some [vI x31]) (h11 : Fit .i64 ((↑x7n : Int) * x31)) (h12 : ((↑x27n : Int) != (↑x7n : Int) * x31) = false) (h13 : getCells (H ++ [vo [vI x0a, vS x0ba x0bn x0bc, vS x0ca x0cn x0cc] 25]) H.length 3 (0 + 1) 1 = some [vS x36a x36n x36c]) (h14 : lI a64 0 prot H ([vI (↑x7n : Int), vS x36a x36n x36c, vI (↑x36n : Int), vI 0], H ++ [vo [vI x0a, vS x0ba x0bn x0bc, vS x0ca x0cn x0cc] 25]) = some (Ex.ret, [vI z2], H1)) : callInf cfg 64 [.agg #[.int .i64 x0a, .slice x0ba x0bn x0bc, .slice x0ca x0cn x0cc]] prot H = some (Value.int .i64 z2, H) :=
 fn_of2 a64 [.e, .v (vS x7a x7n x7c), .e, .v (vI x10), .e, .b false, .b false, .v (vI x14), .b false, .e, .b false, .b false, .b false, .e, .b false, .b false, .b false, .e, .b false, .b false, .b false, .v (vS x27a x27n x27c), .b false, .e, .b false, .b false, .b false, .v (vI x31), .b false, .e, .b false, .e, .b false, .b false, .v (vS x36a x36n x36c), .e, .lo (.ret, [vI z2], H1)] (ai h1 (ai h2 (ai h3 (ai (decide_eq_false h4) (ai (decide_eq_false h4) (ai h5 (ai (decide_eq_false h4) (ai (decide_eq_false h4) (ai (decide_eq_false h6) (ai (decide_eq_false h6) (ai (decide_eq_false h6) (ai (decide_eq_false h7) (ai (decide_eq_false h7) (ai (decide_eq_false h7) (ai (decide_eq_false h8) (ai (decide_eq_false h8) (ai h9 (ai (decide_eq_false h8) (ai (decide_eq_false h8) (ai (decide_eq_false h8) (ai (decide_eq_false h8) (ai h10 (ai (decide_eq_false h8) (ai h11 (ai (decide_eq_false h8) (ai (decide_eq_false h8) (ai h12 (ai h13 (ai h14 (Eq.refl ((vI z2, H) : Value × AHeap))))))))))))))))))))))))))))))) (by kernel_rfl) rfl
theorem f64_L0_0 (h1 : x38 < x37) (h2 : aX 22 (vS x36a x36n x36c) (vI x38) = some (vP x40p x40o x40l)) (h3 : getCells H x40p x40l x40o 1 = some [vI x41]) (h4 : x41 < 0) : lpOf cfg a64 0 prot H0 ([.int .i64 x3, .slice x36a x36n x36c, .int .i64 x37, .int .i64 x38], H) = some (Sum.inr (Ex.ret, [Value.int .i64 80], H)) :=
 lp_of2 [.e, .b true, .v (vP x40p x40o x40l), .v (vI x41), .e, .b true, .b true, .b true, .b true, .b true] (ai (decide_eq_true h1) (ai h2 (ai h3 (ai (decide_eq_true h4) (ai (decide_eq_true h4) (ai (decide_eq_true h4) (ai (decide_eq_true h4) (ai (Eq.refl true) (Eq.refl (Sum.inr (Ex.ret, [vI 80], H) : LS ⊕ LO)))))))))) (by kernel_rfl)
theorem f64_L0_1 (h1 : x38 < x37) (h2 : aX 22 (vS x36a x36n x36c) (vI x38) = some (vP x40p x40o x40l)) (h3 : getCells H x40p x40l x40o 1 = some [vI x41]) (h4 : ¬(x41 < 0)) (h5 : x41 ≥ x3) : lpOf cfg a64 0 prot H0 ([.int .i64 x3, .slice x36a x36n x36c, .int .i64 x37, .int .i64 x38], H) = some (Sum.inr (Ex.ret, [Value.int .i64 80], H)) :=
 lp_of2 [.e, .b true, .v (vP x40p x40o x40l), .v (vI x41), .e, .b false, .b false, .b false, .e, .b false, .b true] (ai (decide_eq_true h1) (ai h2 (ai h3 (ai (decide_eq_false h4) (ai (decide_eq_false h4) (ai (decide_eq_false h4) (ai (decide_eq_false h4) (ai (decide_eq_true h5) (Eq.refl (Sum.inr (Ex.ret, [vI 80], H) : LS ⊕ LO)))))))))) (by kernel_rfl)
theorem f64_L0_2 (h1 : x38 < x37) (h2 : aX 22 (vS x36a x36n x36c) (vI x38) = some (vP x40p x40o x40l)) (h3 : getCells H x40p x40l x40o 1 = some [vI x41]) (h4 : ¬(x41 < 0)) (h5 : ¬(x41 ≥ x3)) (h6 : Fit .i64 (x38 + 1)) : lpOf cfg a64 0 prot H0 ([.int .i64 x3, .slice x36a x36n x36c, .int .i64 x37, .int .i64 x38], H) = some (Sum.inl ([Value.int .i64 x3, Value.slice x36a x36n x36c, Value.int .i64 x37, Value.int .i64 (x38 + 1)], H)) :=
 lp_of2 [.e, .b true, .v (vP x40p x40o x40l), .v (vI x41), .e, .b false, .b false, .b false, .e, .b false, .b false, .e] (ai (decide_eq_true h1) (ai h2 (ai h3 (ai (decide_eq_false h4) (ai (decide_eq_false h4) (ai (decide_eq_false h4) (ai (decide_eq_false h4) (ai (decide_eq_false h5) (ai h6 (Eq.refl (Sum.inl ([vI x3, vS x36a x36n x36c, vI x37, vI (x38 + 1)], H) : LS ⊕ LO))))))))))) (by kernel_rfl)
theorem f64_L0_3 (h1 : ¬(x38 < x37)) : lpOf cfg a64 0 prot H0 ([.int .i64 x3, .slice x36a x36n x36c, .int .i64 x37, .int .i64 x38], H) = some (Sum.inr (Ex.exit 0, [Value.tuple { toList := [] }], H)) :=
 lp_of2 [.e, .b false] (ai (decide_eq_false h1) (Eq.refl (Sum.inr (Ex.exit 0, [Value.tuple #[]], H) : LS ⊕ LO))) (by kernel_rfl)
end
end Go.Proofs.Ythjkodbinkiifaa.Am23
set_option linter.unusedVariables false
open Go Go.Proofs.Ythjkodbinkiifaa.Am
namespace Go.Proofs.Ythjkodbinkiifaa.Am23
section
variable {x0a x4a x5 : Int}
variable {x0ba x0ca x4ba x4ca x10a : Option Addr}
variable {x0bn x0bc x0cn x0cc prot x4bn x4bc x4cn x4cc x10n x10c : Nat}
variable {H : AHeap}
theorem f36_F_0 (h1 : [vI x0a, vS x0ba x0bn x0bc, vS x0ca x0cn x0cc].all isCell = true) (h2 : getCells (H ++ [vo [vI x0a, vS x0ba x0bn x0bc, vS x0ca x0cn x0cc] 25]) H.length 3 0 3 = some [vI x4a, vS x4ba x4bn x4bc, vS x4ca x4cn x4cc]) (h3 : cI 64 [Value.agg #[vI x4a, vS x4ba x4bn x4bc, vS x4ca x4cn x4cc]] H.length (H ++ [vo [vI x0a, vS x0ba x0bn x0bc, vS x0ca x0cn x0cc] 25]) = some (vI x5, H ++ [vo [vI x0a, vS x0ba x0bn x0bc, vS x0ca x0cn x0cc] 25])) (h4 : (x5 != 0) = true) : callInf cfg 36 [.agg #[.int .i64 x0a, .slice x0ba x0bn x0bc, .slice x0ca x0cn x0cc]] prot H = some (Value.int .i64 x5, H) :=
 fn_of2 a36 [.e, .v (.agg #[vI x4a, vS x4ba x4bn x4bc, vS x4ca x4cn x4cc]), .v (vI x5), .e, .b true] (ai h1 (ai h2 (ai h3 (ai h4 (Eq.refl ((vI x5, H) : Value × AHeap)))))) (by kernel_rfl) rfl
theorem f36_F_1 (h1 : [vI x0a, vS x0ba x0bn x0bc, vS x0ca x0cn x0cc].all isCell = true) (h2 : getCells (H ++ [vo [vI x0a, vS x0ba x0bn x0bc, vS x0ca x0cn x0cc] 25]) H.length 3 0 3 = some [vI x4a, vS x4ba x4bn x4bc, vS x4ca x4cn x4cc]) (h3 : cI 64 [Value.agg #[vI x4a, vS x4ba x4bn x4bc, vS x4ca x4cn x4cc]] H.length (H ++ [vo [vI x0a, vS x0ba x0bn x0bc, vS x0ca x0cn x0cc] 25]) = some (vI x5, H ++ [vo [vI x0a, vS x0ba x0bn x0bc, vS x0ca x0cn x0cc] 25])) (h4 : (x5 != 0) = false) (h5 : getCells (H ++ [vo [vI x0a, vS x0ba x0bn x0bc, vS x0ca x0cn x0cc] 25]) H.length 3 (0 + 2) 1 = some [vS x10a x10n x10c]) (h6 : (↑x10n : Int) > 512) : callInf cfg 36 [.agg #[.int .i64 x0a, .slice x0ba x0bn x0bc, .slice x0ca x0cn x0cc]] prot H = some (Value.int .i64 81, H) :=
 fn_of2 a36 [.e, .v (.agg #[vI x4a, vS x4ba x4bn x4bc, vS x4ca x4cn x4cc]), .v (vI x5), .e, .b false, .v (vS x10a x10n x10c), .e, .e, .b true] (ai h1 (ai h2 (ai h3 (ai h4 (ai h5 (ai (decide_eq_true h6) (Eq.refl ((vI 81, H) : Value × AHeap)))))))) (by kernel_rfl) rfl
theorem f36_F_2 (h1 : [vI x0a, vS x0ba x0bn x0bc, vS x0ca x0cn x0cc].all isCell = true) (h2 : getCells (H ++ [vo [vI x0a, vS x0ba x0bn x0bc, vS x0ca x0cn x0cc] 25]) H.length 3 0 3 = some [vI x4a, vS x4ba x4bn x4bc, vS x4ca x4cn x4cc]) (h3 : cI 64 [Value.agg #[vI x4a, vS x4ba x4bn x4bc, vS x4ca x4cn x4cc]] H.length (H ++ [vo [vI x0a, vS x0ba x0bn x0bc, vS x0ca x0cn x0cc] 25]) = some (vI x5, H ++ [vo [vI x0a, vS x0ba x0bn x0bc, vS x0ca x0cn x0cc] 25])) (h4 : (x5 != 0) = false) (h5 : getCells (H ++ [vo [vI x0a, vS x0ba x0bn x0bc, vS x0ca x0cn x0cc] 25]) H.length 3 (0 + 2) 1 = some [vS x10a x10n x10c]) (h6 : ¬((↑x10n : Int) > 512)) : callInf cfg 36 [.agg #[.int .i64 x0a, .slice x0ba x0bn x0bc, .slice x0ca x0cn x0cc]] prot H = some (Value.int .i64 0, H) :=
 fn_of2 a36 [.e, .v (.agg #[vI x4a, vS x4ba x4bn x4bc, vS x4ca x4cn x4cc]), .v (vI x5), .e, .b false, .v (vS x10a x10n x10c), .e, .e, .b false] (ai h1 (ai h2 (ai h3 (ai h4 (ai h5 (ai (decide_eq_false h6) (Eq.refl ((vI 0, H) : Value × AHeap)))))))) (by kernel_rfl) rfl
end
end Go.Proofs.Ythjkodbinkiifaa.Am23
set_option linter.unusedVariables false
open Go Go.Proofs.Ythjkodbinkiifaa.Am
namespace Go.Proofs.Ythjkodbinkiifaa.Am23
end Go.Proofs.Ythjkodbinkiifaa.Am23
set_option linter.unusedVariables false
open Go Go.Proofs.Ythjkodbinkiifaa.Am
namespace Go.Proofs.Ythjkodbinkiifaa.Am23
section
variable {x0a x3a x4 : Int}
variable {x0ba x0ca x3ba x3ca x8a : Option Addr}
variable {x0bn x0bc x0cn x0cc prot x3bn x3bc x3cn x3cc x8n x8c : Nat}
variable {H : AHeap}
theorem f11_F_0 (h1 : [vI x0a, vS x0ba x0bn x0bc, vS x0ca x0cn x0cc].all isCell = true) (h2 : getCells (H ++ [vo [vI x0a, vS x0ba x0bn x0bc, vS x0ca x0cn x0cc] 25]) H.length 3 0 3 = some [vI x3a, vS x3ba x3bn x3bc, vS x3ca x3cn x3cc]) (h3 : cI 35 [Value.agg #[vI x3a, vS x3ba x3bn x3bc, vS x3ca x3cn x3cc]] H.length (H ++ [vo [vI x0a, vS x0ba x0bn x0bc, vS x0ca x0cn x0cc] 25]) = some (vI x4, H ++ [vo [vI x0a, vS x0ba x0bn x0bc, vS x0ca x0cn x0cc] 25])) (h4 : (x4 == 0) = true) (h5 : getCells (H ++ [vo [vI x0a, vS x0ba x0bn x0bc, vS x0ca x0cn x0cc] 25]) H.length 3 (0 + 2) 1 = some [vS x8a x8n x8c]) : callInf cfg 11 [.agg #[.int .i64 x0a, .slice x0ba x0bn x0bc, .slice x0ca x0cn x0cc]] prot H = some (Value.bool (decide ((↑x8n : Int) ≤ 512)), H) :=
 fn_of2 a11 [.e, .v (.agg #[vI x3a, vS x3ba x3bn x3bc, vS x3ca x3cn x3cc]), .v (vI x4), .e, .b true, .b true, .v (vS x8a x8n x8c), .b true, .e, .b true, .e, .b true] (ai h1 (ai h2 (ai h3 (ai h4 (ai h4 (ai h5 (ai h4 (ai h4 (ai h4 (Eq.refl ((Value.bool (decide ((↑x8n : Int) ≤ 512)), H) : Value × AHeap))))))))))) (by kernel_rfl) rfl
theorem f11_F_1 (h1 : [vI x0a, vS x0ba x0bn x0bc, vS x0ca x0cn x0cc].all isCell = true) (h2 : getCells (H ++ [vo [vI x0a, vS x0ba x0bn x0bc, vS x0ca x0cn x0cc] 25]) H.length 3 0 3 = some [vI x3a, vS x3ba x3bn x3bc, vS x3ca x3cn x3cc]) (h3 : cI 35 [Value.agg #[vI x3a, vS x3ba x3bn x3bc, vS x3ca x3cn x3cc]] H.length (H ++ [vo [vI x0a, vS x0ba x0bn x0bc, vS x0ca x0cn x0cc] 25]) = some (vI x4, H ++ [vo [vI x0a, vS x0ba x0bn x0bc, vS x0ca x0cn x0cc] 25])) (h4 : (x4 == 0) = false) : callInf cfg 11 [.agg #[.int .i64 x0a, .slice x0ba x0bn x0bc, .slice x0ca x0cn x0cc]] prot H = some (Value.bool false, H) :=
 fn_of2 a11 [.e, .v (.agg #[vI x3a, vS x3ba x3bn x3bc, vS x3ca x3cn x3cc]), .v (vI x4), .e, .b false, .b false, .b false, .b false, .b false] (ai h1 (ai h2 (ai h3 (ai h4 (ai h4 (ai h4 (ai h4 (ai h4 (Eq.refl ((Value.bool false, H) : Value × AHeap)))))))))) (by kernel_rfl) rfl
end
end Go.Proofs.Ythjkodbinkiifaa.Am23
namespace Go.Proofs.Ythjkodbinkiifaa.Am23
open Go Go.Proofs.Ythjkodbinkiifaa.Am

theorem T22 : ElemT cfg.P 22 3 1 8 := ⟨by kernel_rfl, by kernel_rfl, by kernel_rfl, ⟨.int .i64 0, by kernel_rfl, rfl⟩, by kernel_rfl, by omega, by omega⟩
theorem T23 : ElemT cfg.P 23 4 1 1 := ⟨by kernel_rfl, by kernel_rfl, by kernel_rfl, ⟨.bool false, by kernel_rfl, rfl⟩, by kernel_rfl, by omega, by omega⟩

def il (l : List Int) : List Value := l.map (.int .i64)
def bll (l : List Bool) : List Value := l.map .bool
theorem il_get {l : List Int} {i : Nat} (h : i < l.length) : (il l)[i]? = some (.int .i64 l[i]) := by simp [il, h]
theorem bll_get {l : List Bool} {i : Nat} (h : i < l.length) : (bll l)[i]? = some (.bool l[i]) := by simp [bll, h]

/-- An automaton in memory. -/
structure IsA (H : AHeap) (xs : List Int) (bs : List Bool) (vN vA : Value) : Prop where
 n : Rd H 3 1 vN xs.length (il xs)
 a : Rd H 4 1 vA bs.length (bll bs)
theorem IsA.stay {H H' : AHeap} {xs : List Int} {bs : List Bool} {vN vA : Value} (h : IsA H xs bs vN vA) (k : Stay none H H') : IsA H' xs bs vN vA := ⟨h.n.stay k, h.a.stay k⟩
abbrev av (k : Int) (vN vA : Value) : Value := .agg #[.int .i64 k, vN, vA]
abbrev bx (k : Int) (vN vA : Value) : AObj := .cells [.int .i64 k, vN, vA] 25 3 .var

/-- Are all numbers those of states? -/
def inR (n : Nat) (l : List Int) : Bool := l.all fun x => decide (0 ≤ x) && decide (x < n)
def good (k : Int) (xs : List Int) (bs : List Bool) : Bool :=
 decide (1 ≤ k) && decide (k ≤ 8) && decide (1 ≤ bs.length) && decide (bs.length ≤ 4096) && decide ((xs.length : Int) = bs.length * k) && inR bs.length xs
def chkV (k : Int) (xs : List Int) (bs : List Bool) : Int := if good k xs bs then 0 else 80

theorem loop35 {xs : List Int} {bs : List Bool} {k : Int} {vN vA : Value} {p : Nat} (H0 H : AHeap) (prot : Nat) (hx : xs.length ≤ 40000) (hA : IsA H xs bs vN vA) (hp : H[p]? = some (bx k vN vA)) : ∀ (d i : Nat), i + d = xs.length →
  lpInf (lpOf cfg a35 0 prot H0) ([.pointer (some ⟨p, 0, some 3⟩), .int .i64 bs.length, .int .i64 i], H) = some (if inR bs.length (xs.drop i) then (.exit 0, [.tuple #[]], H) else (.ret, [.int .i64 80], H))
 | 0, i, hi => by
  obtain ⟨a, c, rfl⟩ := hA.n.len
  obtain ⟨_, g2, _⟩ := fld3 hp
  rw [List.drop_of_length_le (by omega), if_pos (show inR _ [] = true from rfl)]
  exact lp_last (f35_L0_3 g2 (by omega))
 | d + 1, i, hi => by
  obtain ⟨a, c, rfl⟩ := hA.n.len
  obtain ⟨_, g2, _⟩ := fld3 hp
  have hil : i < xs.length := by omega
  obtain ⟨id, L, r1, r2⟩ := rd_at T22 hA.n (il_get hil)
  rw [List.drop_eq_getElem_cons hil]
  have hcons : inR bs.length (xs[i] :: xs.drop (i + 1)) = (decide (0 ≤ xs[i]) && decide (xs[i] < bs.length) && inR bs.length (xs.drop (i + 1))) := rfl
  rw [hcons]
  by_cases h0 : xs[i] < 0
  ·rw [decide_eq_false (by omega), Bool.false_and, Bool.false_and, if_neg (by simp)]
   exact lp_last (f35_L0_0 g2 (by omega) g2 r1 r2 h0)
  ·rw [decide_eq_true (by omega), Bool.true_and]
   by_cases h1 : xs[i] < bs.length
   ·rw [decide_eq_true h1, Bool.true_and]
    exact lp_next (f35_L0_2 g2 (by omega) g2 r1 r2 h0 g2 r1 r2 (by omega) (fit64 (by omega) (by omega))) (loop35 H0 H prot hx hA hp d (i + 1) (by omega))
   ·rw [decide_eq_false h1, Bool.false_and, if_neg (by simp)]
    exact lp_last (f35_L0_1 g2 (by omega) g2 r1 r2 h0 g2 r1 r2 (by omega))

theorem loop64 {xs : List Int} {n : Nat} {vN : Value} (H0 H : AHeap) (prot : Nat) (hx : xs.length ≤ 40000) (hA : Rd H 3 1 vN xs.length (il xs)) : ∀ (d i : Nat), i + d = xs.length →
  lpInf (lpOf cfg a64 0 prot H0) ([.int .i64 n, vN, .int .i64 xs.length, .int .i64 i], H) = some (if inR n (xs.drop i) then (.exit 0, [.tuple #[]], H) else (.ret, [.int .i64 80], H))
 | 0, i, hi => by
  obtain ⟨a, c, rfl⟩ := hA.len
  rw [List.drop_of_length_le (by omega), if_pos (show inR _ [] = true from rfl)]
  exact lp_last (f64_L0_3 (by omega))
 | d + 1, i, hi => by
  obtain ⟨a, c, rfl⟩ := hA.len
  have hil : i < xs.length := by omega
  obtain ⟨id, L, r1, r2⟩ := rd_at T22 hA (il_get hil)
  rw [List.drop_eq_getElem_cons hil]
  have hcons : inR n (xs[i] :: xs.drop (i + 1)) = (decide (0 ≤ xs[i]) && decide (xs[i] < n) && inR n (xs.drop (i + 1))) := rfl
  rw [hcons]
  by_cases h0 : xs[i] < 0
  ·rw [decide_eq_false (by omega), Bool.false_and, Bool.false_and, if_neg (by simp)]
   exact lp_last (f64_L0_0 (by omega) r1 r2 h0)
  ·rw [decide_eq_true (by omega), Bool.true_and]
   by_cases h1 : xs[i] < n
   ·rw [decide_eq_true h1, Bool.true_and]
    exact lp_next (f64_L0_2 (by omega) r1 r2 h0 (by omega) (fit64 (by omega) (by omega))) (loop64 H0 H prot hx hA d (i + 1) (by omega))
   ·rw [decide_eq_false h1, Bool.false_and, if_neg (by simp)]
    exact lp_last (f64_L0_1 (by omega) r1 r2 h0 (by omega))

theorem all3 {k : Int} {a b : Option Addr} {n m c d : Nat} : ([Value.int .i64 k, .slice a n c, .slice b m d].all isCell) = true := rfl

theorem c35 {k : Int} {xs : List Int} {bs : List Bool} {vN vA : Value} (prot : Nat) (H : AHeap) (hA : IsA H xs bs vN vA) : callInf cfg 35 [av k vN vA] prot H = some (.int .i64 (chkV k xs bs), H) := by
 obtain ⟨aN, cN, rfl⟩ := hA.n.len
 obtain ⟨aA, cA, rfl⟩ := hA.a.len
 have hg : (H ++ [bx k (.slice aN xs.length cN) (.slice aA bs.length cA)])[H.length]? = some (bx k (.slice aN xs.length cN) (.slice aA bs.length cA)) := append_get.1
 obtain ⟨g0, g1, g2, _⟩ := fld3 hg
 unfold chkV good
 by_cases h1 : k < 1
 ·rw [decide_eq_false (by omega)]; exact f35_F_0 all3 g2 g0 h1
 ·rw [decide_eq_true (by omega), Bool.true_and]
  by_cases h2 : k > 8
  ·rw [decide_eq_false (by omega)]; exact f35_F_1 all3 g2 g0 h1 g0 h2
  ·rw [decide_eq_true (by omega), Bool.true_and]
   by_cases h3 : (bs.length : Int) < 1
   ·rw [decide_eq_false (by omega)]; exact f35_F_2 all3 g2 g0 h1 g0 h2 h3
   ·rw [decide_eq_true (by omega), Bool.true_and]
    by_cases h4 : (bs.length : Int) > 4096
    ·rw [decide_eq_false (by omega)]; exact f35_F_3 all3 g2 g0 h1 g0 h2 h3 h4
    ·rw [decide_eq_true (by omega), Bool.true_and]
     have hb : (bs.length : Int) * k ≤ 4096 * 8 := Int.mul_le_mul (by omega) (by omega) (by omega) (by omega)
     have hb0 : 0 ≤ (bs.length : Int) * k := Int.mul_nonneg (by omega) (by omega)
     have hf : Fit .i64 ((bs.length : Int) * k) := fit64 (by omega) (by omega)
     by_cases h5 : (xs.length : Int) = bs.length * k
     ·rw [decide_eq_true h5, Bool.true_and]
      have hl := loop35 (k := k) (p := H.length) H (H ++ [bx k (.slice aN xs.length cN) (.slice aA bs.length cA)]) prot (by omega) (hA.stay (Stay.app none H _)) hg xs.length 0 (by omega)
      rw [List.drop_zero] at hl
      cases hr : inR bs.length xs with
      | true => rw [hr] at hl; exact f35_F_5 all3 g2 g0 h1 g0 h2 h3 h4 g1 g0 hf (by rw [h5]; simp) hl
      | false => rw [hr] at hl; exact f35_F_6 all3 g2 g0 h1 g0 h2 h3 h4 g1 g0 hf (by rw [h5]; simp) hl
     ·rw [decide_eq_false h5]; exact f35_F_4 all3 g2 g0 h1 g0 h2 h3 h4 g1 g0 hf (by simpa using h5)

theorem c64 {k : Int} {xs : List Int} {bs : List Bool} {vN vA : Value} (prot : Nat) (H : AHeap) (hA : IsA H xs bs vN vA) : callInf cfg 64 [av k vN vA] prot H = some (.int .i64 (chkV k xs bs), H) := by
 obtain ⟨aN, cN, rfl⟩ := hA.n.len
 obtain ⟨aA, cA, rfl⟩ := hA.a.len
 have hg : (H ++ [bx k (.slice aN xs.length cN) (.slice aA bs.length cA)])[H.length]? = some (bx k (.slice aN xs.length cN) (.slice aA bs.length cA)) := append_get.1
 obtain ⟨g0, g1, g2, _⟩ := fld3 hg
 unfold chkV good
 by_cases h1 : k < 1
 ·rw [decide_eq_false (by omega)]; exact f64_F_0 all3 g2 g0 h1
 ·rw [decide_eq_true (by omega), Bool.true_and]
  by_cases h2 : k > 8
  ·rw [decide_eq_false (by omega)]; exact f64_F_1 all3 g2 g0 h1 g0 h2
  ·rw [decide_eq_true (by omega), Bool.true_and]
   by_cases h3 : (bs.length : Int) < 1
   ·rw [decide_eq_false (by omega)]; exact f64_F_2 all3 g2 g0 h1 g0 h2 h3
   ·rw [decide_eq_true (by omega), Bool.true_and]
    by_cases h4 : (bs.length : Int) > 4096
    ·rw [decide_eq_false (by omega)]; exact f64_F_3 all3 g2 g0 h1 g0 h2 h3 h4
    ·rw [decide_eq_true (by omega), Bool.true_and]
     have hb : (bs.length : Int) * k ≤ 4096 * 8 := Int.mul_le_mul (by omega) (by omega) (by omega) (by omega)
     have hb0 : 0 ≤ (bs.length : Int) * k := Int.mul_nonneg (by omega) (by omega)
     have hf : Fit .i64 ((bs.length : Int) * k) := fit64 (by omega) (by omega)
     by_cases h5 : (xs.length : Int) = bs.length * k
     ·rw [decide_eq_true h5, Bool.true_and]
      have hl := loop64 (n := bs.length) H (H ++ [bx k (.slice aN xs.length cN) (.slice aA bs.length cA)]) prot (by omega) (hA.stay (Stay.app none H _)).n xs.length 0 (by omega)
      rw [List.drop_zero] at hl
      cases hr : inR bs.length xs with
      | true => rw [hr] at hl; exact f64_F_5 all3 g2 g0 h1 g0 h2 h3 h4 g1 g0 hf (by rw [h5]; simp) g1 hl
      | false => rw [hr] at hl; exact f64_F_6 all3 g2 g0 h1 g0 h2 h3 h4 g1 g0 hf (by rw [h5]; simp) g1 hl
     ·rw [decide_eq_false h5]; exact f64_F_4 all3 g2 g0 h1 g0 h2 h3 h4 g1 g0 hf (by simpa using h5)

/-- With the bound of a graph. -/
def chkG (k : Int) (xs : List Int) (bs : List Bool) : Int := if good k xs bs then (if bs.length ≤ 512 then 0 else 81) else 80
theorem c36 {k : Int} {xs : List Int} {bs : List Bool} {vN vA : Value} (prot : Nat) (H : AHeap) (hA : IsA H xs bs vN vA) : callInf cfg 36 [av k vN vA] prot H = some (.int .i64 (chkG k xs bs), H) := by
 have h64 := c64 (k := k) H.length (H ++ [bx k vN vA]) (hA.stay (Stay.app none H _))
 obtain ⟨aN, cN, rfl⟩ := hA.n.len
 obtain ⟨aA, cA, rfl⟩ := hA.a.len
 have hg : (H ++ [bx k (.slice aN xs.length cN) (.slice aA bs.length cA)])[H.length]? = some (bx k (.slice aN xs.length cN) (.slice aA bs.length cA)) := append_get.1
 obtain ⟨g0, g1, g2, g3⟩ := fld3 hg
 unfold chkG
 unfold chkV at h64
 cases hgd : good k xs bs with
 | false => rw [hgd] at h64; exact f36_F_0 all3 g3 h64 rfl
 | true =>
  rw [hgd] at h64
  by_cases h : bs.length ≤ 512
  ·rw [if_pos rfl, if_pos h]; exact f36_F_2 all3 g3 h64 rfl g2 (by omega)
  ·rw [if_pos rfl, if_neg h]; exact f36_F_1 all3 g3 h64 rfl g2 (by omega)
theorem c11 {k : Int} {xs : List Int} {bs : List Bool} {vN vA : Value} (prot : Nat) (H : AHeap) (hA : IsA H xs bs vN vA) : callInf cfg 11 [av k vN vA] prot H = some (.bool (decide (chkG k xs bs = 0)), H) := by
 have h35 := c35 (k := k) H.length (H ++ [bx k vN vA]) (hA.stay (Stay.app none H _))
 obtain ⟨aN, cN, rfl⟩ := hA.n.len
 obtain ⟨aA, cA, rfl⟩ := hA.a.len
 have hg : (H ++ [bx k (.slice aN xs.length cN) (.slice aA bs.length cA)])[H.length]? = some (bx k (.slice aN xs.length cN) (.slice aA bs.length cA)) := append_get.1
 obtain ⟨g0, g1, g2, g3⟩ := fld3 hg
 unfold chkG
 unfold chkV at h35
 cases hgd : good k xs bs with
 | false => rw [hgd] at h35; exact f11_F_1 all3 g3 h35 rfl
 | true =>
  rw [hgd] at h35
  have := f11_F_0 (prot := prot) all3 g3 h35 rfl g2
  rw [this]
  by_cases h : bs.length ≤ 512
  ·rw [if_pos rfl, if_pos h, decide_eq_true (by omega)]; rfl
  ·rw [if_pos rfl, if_neg h, decide_eq_false (by omega)]; rfl
end Go.Proofs.Ythjkodbinkiifaa.Am23
namespace Go.Proofs.Ythjkodbinkiifaa.Am
open Go

/-- One cell of a row of one-cell elements is put. -/
theorem put_map {α : Type} (f : α → Value) (l : List α) {i : Nat} (hi : i < l.length) (c : α) : putList (l.map f) (i * 1 + 0) [f c] = (l.set i c).map f := by
 unfold putList
 rw [Nat.mul_one, Nat.add_zero]
 apply List.ext_getElem
 ·simp; omega
 ·intro j h1 h2
  simp only [List.getElem_map, List.getElem_set]
  rw [List.getElem_append]
  split
  ·rename_i hj
   rw [List.getElem_append]
   split
   ·rename_i hj2
    simp only [List.length_take, List.length_map] at hj2
    rw [if_neg (by omega)]
    simp
   ·rename_i hj2
    simp only [List.length_append, List.length_take, List.length_map, List.length_cons, List.length_nil] at hj hj2
    rw [if_pos (by omega)]
    simp
  ·rename_i hj
   simp only [List.length_append, List.length_take, List.length_map, List.length_cons, List.length_nil] at hj
   rw [if_neg (by omega)]
   simp only [List.getElem_drop, List.getElem_map, List.length_append, List.length_take, List.length_map, List.length_cons, List.length_nil]
   congr 2
   omega
theorem rep_map {α : Type} (f : α → Value) (a : α) : ∀ n, repCells [f a] n = (List.replicate n a).map f
 | 0 => rfl
 | n + 1 => by
  unfold repCells
  rw [rep_map f a n, List.replicate_succ]
  rfl

/-- A row is written over another one. -/
theorem own_copy {P : Program} {t e s by_ : Nat} (T : ElemT P t e s by_) {H : AHeap} {x y : Value} {o n : Nat} {cs ds : List Value} (hx : Own H e s x (some o) n cs) (hy : Rd H e s y n ds) {prot : Nat} (hp : prot ≤ o) (hc : ds.all isCell = true) :
  ∃ H', acopy P prot t t x y H = some (.int .i64 (n : Int), H') ∧ Own H' e s x (some o) n ds ∧ Stay (some o) H H' ∧ H'.length = H.length := by
 have hsrc := rd_src (s := s) T.un hy
 have hdl := hy.1
 obtain ⟨hl, hn, rfl, wr, hwr, hH⟩ := hx
 refine ⟨H.set o (.cells ds e ds.length .row), ?_, ⟨hdl, hn, by rw [hdl, hl], ds.length, Nat.le_refl _, List.getElem?_set_self (List.getElem?_eq_some_iff.1 hH).1⟩, ⟨by simp, fun q hq hne => List.getElem?_set_ne (fun e => hne (by rw [e]))⟩, by simp⟩
 unfold acopy
 rw [T.sl, Option.bind_some, T.sz, Option.bind_some, hsrc, Option.bind_some]
 simp only
 rw [if_pos hdl, Nat.min_self, List.take_of_length_le (by omega)]
 unfold setCells
 rw [hH]
 simp only
 rw [if_pos ⟨rfl, hp, trivial, by omega, hc⟩, Option.map_some]
 have : putList cs 0 ds = ds := by
  unfold putList
  rw [List.take_zero, List.nil_append, Nat.zero_add, List.drop_of_length_le (by omega), List.append_nil]
 rw [this]
 have e2 : cs.length = ds.length := by omega
 rw [e2]
end Go.Proofs.Ythjkodbinkiifaa.Am
set_option linter.unusedVariables false
open Go Go.Proofs.Ythjkodbinkiifaa.Am
namespace Go.Proofs.Ythjkodbinkiifaa.Am23
section
variable {x0a x1 x18a x19 z1 x116 x38 x39 x49 x50 z49 z50 x106 x109 x60 x61 x65 x68 x74 x78 x79a x79b : Int}
variable {x0ba x0ca x18ba x18ca x30a x37a z7a z8a z7a_2 z8a_2 x7a x8a x59a z11a z12a x11a x12a : Option Addr}
variable {x0bn x0bc x0cn x0cc prot x18bn x18bc x18cn x18cc x30n x30c x37n x37c z2p z2o z2l z7n z7c z8n z8c z7n_2 z7c_2 z8n_2 z8c_2 x112p x112o x112l x115p x115o x115l x2p x2o x2l x7n x7c x8n x8c x42p x42o x42l x47p x47o x47l x59n x59c z11n z11c z12n z12c x11n x11c x12n x12c x64p x64o x64l x73p x73o x73l x77p x77o x77l x85p x85o x85l x90p x90o x90l x102p x102o x102l x99p x99o x99l : Nat}
variable {H H1 H2 H0 H3 H4 : AHeap}
variable {x113 x43 x91 x100 : Bool}
theorem f14_F_0 (h1 : [vI x0a, vS x0ba x0bn x0bc, vS x0ca x0cn x0cc].all isCell = true) (h2 : getCells (H ++ [vo [vI x0a, vS x0ba x0bn x0bc, vS x0ca x0cn x0cc] 25]) H.length 3 0 3 = some [vI x18a, vS x18ba x18bn x18bc, vS x18ca x18cn x18cc]) (h3 : cI 36 [Value.agg #[vI x18a, vS x18ba x18bn x18bc, vS x18ca x18cn x18cc]] H.length (H ++ [vo [vI x0a, vS x0ba x0bn x0bc, vS x0ca x0cn x0cc] 25]) = some (vI x19, H ++ [vo [vI x0a, vS x0ba x0bn x0bc, vS x0ca x0cn x0cc] 25])) (h4 : (x19 != 0) = true) : callInf cfg 14 [.agg #[.int .i64 x0a, .slice x0ba x0bn x0bc, .slice x0ca x0cn x0cc], .int .i64 x1] prot H = some (Value.tuple { toList := [Value.int .u64 0, Value.int .i64 x19] }, H) :=
 fn_of2 a14 [.e, .v (.agg #[vI x18a, vS x18ba x18bn x18bc, vS x18ca x18cn x18cc]), .v (vI x19), .e, .b true] (ai h1 (ai h2 (ai h3 (ai h4 (Eq.refl ((Value.tuple #[Value.int .u64 0, vI x19], H) : Value × AHeap)))))) (by kernel_rfl) rfl
theorem f14_F_1 (h1 : [vI x0a, vS x0ba x0bn x0bc, vS x0ca x0cn x0cc].all isCell = true) (h2 : getCells (H ++ [vo [vI x0a, vS x0ba x0bn x0bc, vS x0ca x0cn x0cc] 25]) H.length 3 0 3 = some [vI x18a, vS x18ba x18bn x18bc, vS x18ca x18cn x18cc]) (h3 : cI 36 [Value.agg #[vI x18a, vS x18ba x18bn x18bc, vS x18ca x18cn x18cc]] H.length (H ++ [vo [vI x0a, vS x0ba x0bn x0bc, vS x0ca x0cn x0cc] 25]) = some (vI x19, H ++ [vo [vI x0a, vS x0ba x0bn x0bc, vS x0ca x0cn x0cc] 25])) (h4 : (x19 != 0) = false) (h5 : x1 < 0) : callInf cfg 14 [.agg #[.int .i64 x0a, .slice x0ba x0bn x0bc, .slice x0ca x0cn x0cc], .int .i64 x1] prot H = some (Value.tuple { toList := [Value.int .u64 0, Value.int .i64 1] }, H) :=
 fn_of2 a14 [.e, .v (.agg #[vI x18a, vS x18ba x18bn x18bc, vS x18ca x18cn x18cc]), .v (vI x19), .e, .b false, .e, .b true] (ai h1 (ai h2 (ai h3 (ai h4 (ai (decide_eq_true h5) (Eq.refl ((Value.tuple #[Value.int .u64 0, vI 1], H) : Value × AHeap))))))) (by kernel_rfl) rfl
theorem f14_F_2 (h1 : [vI x0a, vS x0ba x0bn x0bc, vS x0ca x0cn x0cc].all isCell = true) (h2 : getCells (H ++ [vo [vI x0a, vS x0ba x0bn x0bc, vS x0ca x0cn x0cc] 25]) H.length 3 0 3 = some [vI x18a, vS x18ba x18bn x18bc, vS x18ca x18cn x18cc]) (h3 : cI 36 [Value.agg #[vI x18a, vS x18ba x18bn x18bc, vS x18ca x18cn x18cc]] H.length (H ++ [vo [vI x0a, vS x0ba x0bn x0bc, vS x0ca x0cn x0cc] 25]) = some (vI x19, H ++ [vo [vI x0a, vS x0ba x0bn x0bc, vS x0ca x0cn x0cc] 25])) (h4 : (x19 != 0) = false) (h5 : ¬(x1 < 0)) (h6 : x1 > 4096) : callInf cfg 14 [.agg #[.int .i64 x0a, .slice x0ba x0bn x0bc, .slice x0ca x0cn x0cc], .int .i64 x1] prot H = some (Value.tuple { toList := [Value.int .u64 0, Value.int .i64 6] }, H) :=
 fn_of2 a14 [.e, .v (.agg #[vI x18a, vS x18ba x18bn x18bc, vS x18ca x18cn x18cc]), .v (vI x19), .e, .b false, .e, .b false, .e, .b true] (ai h1 (ai h2 (ai h3 (ai h4 (ai (decide_eq_false h5) (ai (decide_eq_true h6) (Eq.refl ((Value.tuple #[Value.int .u64 0, vI 6], H) : Value × AHeap)))))))) (by kernel_rfl) rfl
theorem f14_F_3 (h1 : [vI x0a, vS x0ba x0bn x0bc, vS x0ca x0cn x0cc].all isCell = true) (h2 : getCells (H ++ [vo [vI x0a, vS x0ba x0bn x0bc, vS x0ca x0cn x0cc] 25]) H.length 3 0 3 = some [vI x18a, vS x18ba x18bn x18bc, vS x18ca x18cn x18cc]) (h3 : cI 36 [Value.agg #[vI x18a, vS x18ba x18bn x18bc, vS x18ca x18cn x18cc]] H.length (H ++ [vo [vI x0a, vS x0ba x0bn x0bc, vS x0ca x0cn x0cc] 25]) = some (vI x19, H ++ [vo [vI x0a, vS x0ba x0bn x0bc, vS x0ca x0cn x0cc] 25])) (h4 : (x19 != 0) = false) (h5 : ¬(x1 < 0)) (h6 : ¬(x1 > 4096)) (h7 : getCells (H ++ [vo [vI x0a, vS x0ba x0bn x0bc, vS x0ca x0cn x0cc] 25]) H.length 3 (0 + 2) 1 = some [vS x30a x30n x30c]) (h8 : 0 ≤ (↑x30n : Int)) (h9 : (↑x30n : Int) = (↑x30n : Int)) (h10 : (↑x30n : Int) ≤ 9223372036854775807) (h11 : (↑8 : Int) * (↑x30n : Int) ≤ 2 ^ 48) (h12 : 0 ≤ (↑(↑x30n : Int).toNat : Int)) (h13 : (↑(↑x30n : Int).toNat : Int) = (↑(↑x30n : Int).toNat : Int)) (h14 : (↑(↑x30n : Int).toNat : Int) ≤ 9223372036854775807) (h15 : (↑1 : Int) * (↑(↑x30n : Int).toNat : Int) ≤ 2 ^ 48) (h16 : getCells (H ++ [vo [vI x0a, vS x0ba x0bn x0bc, vS x0ca x0cn x0cc] 25] ++ [AObj.cells (repCells [Value.int .u64 0] (↑x30n : Int).toNat) 33 (repCells [Value.int .u64 0] (↑x30n : Int).toNat).length OMode.row] ++ [AObj.cells (repCells [Value.bool false] (↑(↑x30n : Int).toNat : Int).toNat) 4 (repCells [Value.bool false] (↑(↑x30n : Int).toNat : Int).toNat).length OMode.row]) H.length 3 (0 + 2) 1 = some [vS x37a x37n x37c]) (h17 : lI a14 0 prot H ([vI x1, vP H.length 0 3, vS (some ⟨List.length (H ++ [vo [vI x0a, vS x0ba x0bn x0bc, vS x0ca x0cn x0cc] 25]), 0, some ((↑x30n : Int).toNat * 1)⟩) (↑x30n : Int).toNat (↑x30n : Int).toNat, vS (some ⟨List.length (H ++ [vo [vI x0a, vS x0ba x0bn x0bc, vS x0ca x0cn x0cc] 25] ++ [AObj.cells (repCells [Value.int .u64 0] (↑x30n : Int).toNat) 33 (repCells [Value.int .u64 0] (↑x30n : Int).toNat).length OMode.row]), 0, some ((↑(↑x30n : Int).toNat : Int).toNat * 1)⟩) (↑(↑x30n : Int).toNat : Int).toNat (↑(↑x30n : Int).toNat : Int).toNat, vS x37a x37n x37c, vI (↑x37n : Int), vI 0], H ++ [vo [vI x0a, vS x0ba x0bn x0bc, vS x0ca x0cn x0cc] 25] ++ [AObj.cells (repCells [Value.int .u64 0] (↑x30n : Int).toNat) 33 (repCells [Value.int .u64 0] (↑x30n : Int).toNat).length OMode.row] ++ [AObj.cells (repCells [Value.bool false] (↑(↑x30n : Int).toNat : Int).toNat) 4 (repCells [Value.bool false] (↑(↑x30n : Int).toNat : Int).toNat).length OMode.row]) = some (Ex.exit 1, [vI z1, vP z2p z2o z2l, vS z7a z7n z7c, vS z8a z8n z8c], H1)) (h18 : lI a14 1 prot H ([vP z2p z2o z2l, vS z7a z7n z7c, vS z8a z8n z8c, vI z1, vI 0], H1) = some (Ex.exit 3, [vS z7a_2 z7n_2 z7c_2, vS z8a_2 z8n_2 z8c_2], H2)) (h19 : aX 23 (vS z8a_2 z8n_2 z8c_2) (vI 0) = some (vP x112p x112o x112l)) (h20 : getCells H2 x112p x112l x112o 1 = some [Value.bool x113]) (h21 : x113 = true) : callInf cfg 14 [.agg #[.int .i64 x0a, .slice x0ba x0bn x0bc, .slice x0ca x0cn x0cc], .int .i64 x1] prot H = some (Value.tuple { toList := [Value.int .u64 0, Value.int .i64 11] }, H) :=
 fn_of2 a14 [.e, .v (.agg #[vI x18a, vS x18ba x18bn x18bc, vS x18ca x18cn x18cc]), .v (vI x19), .e, .b false, .e, .b false, .e, .b false, .v (vS x30a x30n x30c), .e, .e, .e, .e, .v (vS x37a x37n x37c), .e, .lo (.exit 1, [vI z1, vP z2p z2o z2l, vS z7a z7n z7c, vS z8a z8n z8c], H1), .lo (.exit 3, [vS z7a_2 z7n_2 z7c_2, vS z8a_2 z8n_2 z8c_2], H2), .v (vP x112p x112o x112l), .v (.bool x113), .b true] (ai h1 (ai h2 (ai h3 (ai h4 (ai (decide_eq_false h5) (ai (decide_eq_false h6) (ai h7 (ai h8 (ai h9 (ai h10 (ai h11 (ai h12 (ai h13 (ai h14 (ai h15 (ai h16 (ai h17 (ai h18 (ai h19 (ai h20 (ai h21 (Eq.refl ((Value.tuple #[Value.int .u64 0, vI 11], H) : Value × AHeap))))))))))))))))))))))) (by kernel_rfl) rfl
theorem f14_F_4 (h1 : [vI x0a, vS x0ba x0bn x0bc, vS x0ca x0cn x0cc].all isCell = true) (h2 : getCells (H ++ [vo [vI x0a, vS x0ba x0bn x0bc, vS x0ca x0cn x0cc] 25]) H.length 3 0 3 = some [vI x18a, vS x18ba x18bn x18bc, vS x18ca x18cn x18cc]) (h3 : cI 36 [Value.agg #[vI x18a, vS x18ba x18bn x18bc, vS x18ca x18cn x18cc]] H.length (H ++ [vo [vI x0a, vS x0ba x0bn x0bc, vS x0ca x0cn x0cc] 25]) = some (vI x19, H ++ [vo [vI x0a, vS x0ba x0bn x0bc, vS x0ca x0cn x0cc] 25])) (h4 : (x19 != 0) = false) (h5 : ¬(x1 < 0)) (h6 : ¬(x1 > 4096)) (h7 : getCells (H ++ [vo [vI x0a, vS x0ba x0bn x0bc, vS x0ca x0cn x0cc] 25]) H.length 3 (0 + 2) 1 = some [vS x30a x30n x30c]) (h8 : 0 ≤ (↑x30n : Int)) (h9 : (↑x30n : Int) = (↑x30n : Int)) (h10 : (↑x30n : Int) ≤ 9223372036854775807) (h11 : (↑8 : Int) * (↑x30n : Int) ≤ 2 ^ 48) (h12 : 0 ≤ (↑(↑x30n : Int).toNat : Int)) (h13 : (↑(↑x30n : Int).toNat : Int) = (↑(↑x30n : Int).toNat : Int)) (h14 : (↑(↑x30n : Int).toNat : Int) ≤ 9223372036854775807) (h15 : (↑1 : Int) * (↑(↑x30n : Int).toNat : Int) ≤ 2 ^ 48) (h16 : getCells (H ++ [vo [vI x0a, vS x0ba x0bn x0bc, vS x0ca x0cn x0cc] 25] ++ [AObj.cells (repCells [Value.int .u64 0] (↑x30n : Int).toNat) 33 (repCells [Value.int .u64 0] (↑x30n : Int).toNat).length OMode.row] ++ [AObj.cells (repCells [Value.bool false] (↑(↑x30n : Int).toNat : Int).toNat) 4 (repCells [Value.bool false] (↑(↑x30n : Int).toNat : Int).toNat).length OMode.row]) H.length 3 (0 + 2) 1 = some [vS x37a x37n x37c]) (h17 : lI a14 0 prot H ([vI x1, vP H.length 0 3, vS (some ⟨List.length (H ++ [vo [vI x0a, vS x0ba x0bn x0bc, vS x0ca x0cn x0cc] 25]), 0, some ((↑x30n : Int).toNat * 1)⟩) (↑x30n : Int).toNat (↑x30n : Int).toNat, vS (some ⟨List.length (H ++ [vo [vI x0a, vS x0ba x0bn x0bc, vS x0ca x0cn x0cc] 25] ++ [AObj.cells (repCells [Value.int .u64 0] (↑x30n : Int).toNat) 33 (repCells [Value.int .u64 0] (↑x30n : Int).toNat).length OMode.row]), 0, some ((↑(↑x30n : Int).toNat : Int).toNat * 1)⟩) (↑(↑x30n : Int).toNat : Int).toNat (↑(↑x30n : Int).toNat : Int).toNat, vS x37a x37n x37c, vI (↑x37n : Int), vI 0], H ++ [vo [vI x0a, vS x0ba x0bn x0bc, vS x0ca x0cn x0cc] 25] ++ [AObj.cells (repCells [Value.int .u64 0] (↑x30n : Int).toNat) 33 (repCells [Value.int .u64 0] (↑x30n : Int).toNat).length OMode.row] ++ [AObj.cells (repCells [Value.bool false] (↑(↑x30n : Int).toNat : Int).toNat) 4 (repCells [Value.bool false] (↑(↑x30n : Int).toNat : Int).toNat).length OMode.row]) = some (Ex.exit 1, [vI z1, vP z2p z2o z2l, vS z7a z7n z7c, vS z8a z8n z8c], H1)) (h18 : lI a14 1 prot H ([vP z2p z2o z2l, vS z7a z7n z7c, vS z8a z8n z8c, vI z1, vI 0], H1) = some (Ex.exit 3, [vS z7a_2 z7n_2 z7c_2, vS z8a_2 z8n_2 z8c_2], H2)) (h19 : aX 23 (vS z8a_2 z8n_2 z8c_2) (vI 0) = some (vP x112p x112o x112l)) (h20 : getCells H2 x112p x112l x112o 1 = some [Value.bool x113]) (h21 : x113 = false) (h22 : aX 66 (vS z7a_2 z7n_2 z7c_2) (vI 0) = some (vP x115p x115o x115l)) (h23 : getCells H2 x115p x115l x115o 1 = some [Value.int .u64 x116]) : callInf cfg 14 [.agg #[.int .i64 x0a, .slice x0ba x0bn x0bc, .slice x0ca x0cn x0cc], .int .i64 x1] prot H = some (Value.tuple { toList := [Value.int .u64 x116, Value.int .i64 0] }, H) :=
 fn_of2 a14 [.e, .v (.agg #[vI x18a, vS x18ba x18bn x18bc, vS x18ca x18cn x18cc]), .v (vI x19), .e, .b false, .e, .b false, .e, .b false, .v (vS x30a x30n x30c), .e, .e, .e, .e, .v (vS x37a x37n x37c), .e, .lo (.exit 1, [vI z1, vP z2p z2o z2l, vS z7a z7n z7c, vS z8a z8n z8c], H1), .lo (.exit 3, [vS z7a_2 z7n_2 z7c_2, vS z8a_2 z8n_2 z8c_2], H2), .v (vP x112p x112o x112l), .v (.bool x113), .b false, .v (vP x115p x115o x115l), .v (.int .u64 x116)] (ai h1 (ai h2 (ai h3 (ai h4 (ai (decide_eq_false h5) (ai (decide_eq_false h6) (ai h7 (ai h8 (ai h9 (ai h10 (ai h11 (ai h12 (ai h13 (ai h14 (ai h15 (ai h16 (ai h17 (ai h18 (ai h19 (ai h20 (ai h21 (ai h22 (ai h23 (Eq.refl ((Value.tuple #[Value.int .u64 x116, vI 0], H) : Value × AHeap))))))))))))))))))))))))) (by kernel_rfl) rfl
theorem f14_L0_0 (h1 : x39 < x38) (h2 : aX 23 (vS x37a x37n x37c) (vI x39) = some (vP x42p x42o x42l)) (h3 : getCells H x42p x42l x42o 1 = some [Value.bool x43]) (h4 : x43 = true) (h5 : aX 66 (vS x7a x7n x7c) (vI x39) = some (vP x47p x47o x47l)) (h6 : 1 = 1) (h7 : setCells H H0.length x47p x47l x47o [Value.int .u64 1] = some H2) (h8 : Fit .i64 (x39 + 1)) : lpOf cfg a14 0 prot H0 ([.int .i64 x1, .pointer (some ⟨x2p, x2o, some x2l⟩), .slice x7a x7n x7c, .slice x8a x8n x8c, .slice x37a x37n x37c, .int .i64 x38, .int .i64 x39], H) = some (Sum.inl ([Value.int .i64 x1, Value.pointer (some ⟨x2p, x2o, some x2l⟩), Value.slice x7a x7n x7c, Value.slice x8a x8n x8c, Value.slice x37a x37n x37c, Value.int .i64 x38, Value.int .i64 (x39 + 1)], H2)) :=
 lp_of2 [.e, .b true, .v (vP x42p x42o x42l), .v (.bool x43), .b true, .v (vP x47p x47o x47l), .h H2, .e] (ai (decide_eq_true h1) (ai h2 (ai h3 (ai h4 (ai h5 (ai h6 (ai h7 (ai h8 (Eq.refl (Sum.inl ([vI x1, vP x2p x2o x2l, vS x7a x7n x7c, vS x8a x8n x8c, vS x37a x37n x37c, vI x38, vI (x39 + 1)], H2) : LS ⊕ LO)))))))))) (by kernel_rfl)
theorem f14_L0_1 (h1 : x39 < x38) (h2 : aX 23 (vS x37a x37n x37c) (vI x39) = some (vP x42p x42o x42l)) (h3 : getCells H x42p x42l x42o 1 = some [Value.bool x43]) (h4 : x43 = false) (h5 : Fit .i64 (x39 + 1)) : lpOf cfg a14 0 prot H0 ([.int .i64 x1, .pointer (some ⟨x2p, x2o, some x2l⟩), .slice x7a x7n x7c, .slice x8a x8n x8c, .slice x37a x37n x37c, .int .i64 x38, .int .i64 x39], H) = some (Sum.inl ([Value.int .i64 x1, Value.pointer (some ⟨x2p, x2o, some x2l⟩), Value.slice x7a x7n x7c, Value.slice x8a x8n x8c, Value.slice x37a x37n x37c, Value.int .i64 x38, Value.int .i64 (x39 + 1)], H)) :=
 lp_of2 [.e, .b true, .v (vP x42p x42o x42l), .v (.bool x43), .b false, .e] (ai (decide_eq_true h1) (ai h2 (ai h3 (ai h4 (ai h5 (Eq.refl (Sum.inl ([vI x1, vP x2p x2o x2l, vS x7a x7n x7c, vS x8a x8n x8c, vS x37a x37n x37c, vI x38, vI (x39 + 1)], H) : LS ⊕ LO))))))) (by kernel_rfl)
theorem f14_L0_2 (h1 : ¬(x39 < x38)) : lpOf cfg a14 0 prot H0 ([.int .i64 x1, .pointer (some ⟨x2p, x2o, some x2l⟩), .slice x7a x7n x7c, .slice x8a x8n x8c, .slice x37a x37n x37c, .int .i64 x38, .int .i64 x39], H) = some (Sum.inr (Ex.exit 1, [Value.int .i64 x1, Value.pointer (some ⟨x2p, x2o, some x2l⟩), Value.slice x7a x7n x7c, Value.slice x8a x8n x8c], H)) :=
 lp_of2 [.e, .b false] (ai (decide_eq_false h1) (Eq.refl (Sum.inr (Ex.exit 1, [vI x1, vP x2p x2o x2l, vS x7a x7n x7c, vS x8a x8n x8c], H) : LS ⊕ LO))) (by kernel_rfl)
theorem f14_L1_0 (h1 : x50 < x49) (h2 : 0 ≤ (↑x7n : Int)) (h3 : (↑x7n : Int) = (↑x7n : Int)) (h4 : (↑x7n : Int) ≤ 9223372036854775807) (h5 : (↑8 : Int) * (↑x7n : Int) ≤ 2 ^ 48) (h6 : (↑1 : Int) * (↑x7n : Int) ≤ 2 ^ 48) (h7 : getCells (H ++ [AObj.cells (repCells [Value.int .u64 0] (↑x7n : Int).toNat) 33 (repCells [Value.int .u64 0] (↑x7n : Int).toNat).length OMode.row] ++ [AObj.cells (repCells [Value.bool false] (↑x7n : Int).toNat) 4 (repCells [Value.bool false] (↑x7n : Int).toNat).length OMode.row]) x2p x2l (x2o + 1) 1 = some [vS x59a x59n x59c]) (h8 : lI a14 2 prot H0 ([vP x2p x2o x2l, vS x7a x7n x7c, vS x8a x8n x8c, vS (some ⟨H.length, 0, some ((↑x7n : Int).toNat * 1)⟩) (↑x7n : Int).toNat (↑x7n : Int).toNat, vS (some ⟨List.length (H ++ [AObj.cells (repCells [Value.int .u64 0] (↑x7n : Int).toNat) 33 (repCells [Value.int .u64 0] (↑x7n : Int).toNat).length OMode.row]), 0, some ((↑x7n : Int).toNat * 1)⟩) (↑x7n : Int).toNat (↑x7n : Int).toNat, vI x49, vI x50, vS x59a x59n x59c, vI (↑x59n : Int), vI 0], H ++ [AObj.cells (repCells [Value.int .u64 0] (↑x7n : Int).toNat) 33 (repCells [Value.int .u64 0] (↑x7n : Int).toNat).length OMode.row] ++ [AObj.cells (repCells [Value.bool false] (↑x7n : Int).toNat) 4 (repCells [Value.bool false] (↑x7n : Int).toNat).length OMode.row]) = some (Ex.exit 5, [vP z2p z2o z2l, vS z7a z7n z7c, vS z8a z8n z8c, vS z11a z11n z11c, vS z12a z12n z12c, vI z49, vI z50], H2)) (h9 : acopy cfg.P H0.length 66 66 (vS z7a z7n z7c) (vS z11a z11n z11c) H2 = some (vI x106, H3)) (h10 : acopy cfg.P H0.length 23 23 (vS z8a z8n z8c) (vS z12a z12n z12c) H3 = some (vI x109, H4)) (h11 : Fit .i64 (z50 + 1)) : lpOf cfg a14 1 prot H0 ([.pointer (some ⟨x2p, x2o, some x2l⟩), .slice x7a x7n x7c, .slice x8a x8n x8c, .int .i64 x49, .int .i64 x50], H) = some (Sum.inl ([Value.pointer (some ⟨z2p, z2o, some z2l⟩), Value.slice z7a z7n z7c, Value.slice z8a z8n z8c, Value.int .i64 z49, Value.int .i64 (z50 + 1)], H4)) :=
 lp_of2 [.e, .b true, .e, .e, .e, .e, .v (vS x59a x59n x59c), .e, .lo (.exit 5, [vP z2p z2o z2l, vS z7a z7n z7c, vS z8a z8n z8c, vS z11a z11n z11c, vS z12a z12n z12c, vI z49, vI z50], H2), .r (vI x106) H3, .r (vI x109) H4, .e] (ai (decide_eq_true h1) (ai h2 (ai h3 (ai h4 (ai h5 (ai h2 (ai h3 (ai h4 (ai h6 (ai h7 (ai h8 (ai h9 (ai h10 (ai h11 (Eq.refl (Sum.inl ([vP z2p z2o z2l, vS z7a z7n z7c, vS z8a z8n z8c, vI z49, vI (z50 + 1)], H4) : LS ⊕ LO)))))))))))))))) (by kernel_rfl)
theorem f14_L1_1 (h1 : ¬(x50 < x49)) : lpOf cfg a14 1 prot H0 ([.pointer (some ⟨x2p, x2o, some x2l⟩), .slice x7a x7n x7c, .slice x8a x8n x8c, .int .i64 x49, .int .i64 x50], H) = some (Sum.inr (Ex.exit 3, [Value.slice x7a x7n x7c, Value.slice x8a x8n x8c], H)) :=
 lp_of2 [.e, .b false] (ai (decide_eq_false h1) (Eq.refl (Sum.inr (Ex.exit 3, [vS x7a x7n x7c, vS x8a x8n x8c], H) : LS ⊕ LO))) (by kernel_rfl)
theorem f14_L2_0 (h1 : x61 < x60) (h2 : aX 22 (vS x59a x59n x59c) (vI x61) = some (vP x64p x64o x64l)) (h3 : getCells H x64p x64l x64o 1 = some [vI x65]) (h4 : getCells H x2p x2l (x2o + 0) 1 = some [vI x68]) (h5 : x68 ≠ 0) (h6 : Fit .i64 (x61.tdiv x68)) (h7 : aX 66 (vS x11a x11n x11c) (vI (x61.tdiv x68)) = some (vP x73p x73o x73l)) (h8 : getCells H x73p x73l x73o 1 = some [Value.int .u64 x74]) (h9 : aX 66 (vS x7a x7n x7c) (vI x65) = some (vP x77p x77o x77l)) (h10 : getCells H x77p x77l x77o 1 = some [Value.int .u64 x78]) (h11 : acall { P := cfg.P, ext := cfg.ext, cl := callInf cfg, lp := lpInf, nt := a14.nt, prot := H0.length, mt := mtOf cfg, room := true } (Value.func (Fn.func 38) #[] #[]) [Value.int .u64 x74, Value.int .u64 x78, Value.int .u64 0] H = some (Value.tuple #[Value.int .u64 x79a, Value.int .u64 x79b], H)) (h12 : aX 66 (vS x11a x11n x11c) (vI (x61.tdiv x68)) = some (vP x85p x85o x85l)) (h13 : 1 = 1) (h14 : setCells H H0.length x85p x85l x85o [Value.int .u64 x79a] = some H2) (h15 : aX 23 (vS x12a x12n x12c) (vI (x61.tdiv x68)) = some (vP x90p x90o x90l)) (h16 : getCells H2 x90p x90l x90o 1 = some [Value.bool x91]) (h17 : x91 = true) (h18 : aX 23 (vS x12a x12n x12c) (vI (x61.tdiv x68)) = some (vP x102p x102o x102l)) (h19 : 1 = 1) (h20 : setCells H2 H0.length x102p x102l x102o [Value.bool true] = some H3) (h21 : Fit .i64 (x61 + 1)) : lpOf cfg a14 2 prot H0 ([.pointer (some ⟨x2p, x2o, some x2l⟩), .slice x7a x7n x7c, .slice x8a x8n x8c, .slice x11a x11n x11c, .slice x12a x12n x12c, .int .i64 x49, .int .i64 x50, .slice x59a x59n x59c, .int .i64 x60, .int .i64 x61], H) = some (Sum.inl ([Value.pointer (some ⟨x2p, x2o, some x2l⟩), Value.slice x7a x7n x7c, Value.slice x8a x8n x8c, Value.slice x11a x11n x11c, Value.slice x12a x12n x12c, Value.int .i64 x49, Value.int .i64 x50, Value.slice x59a x59n x59c, Value.int .i64 x60, Value.int .i64 (x61 + 1)], H3)) :=
 lp_of2 [.e, .b true, .v (vP x64p x64o x64l), .v (vI x65), .v (vI x68), .e, .v (vP x73p x73o x73l), .v (.int .u64 x74), .v (vP x77p x77o x77l), .v (.int .u64 x78), .v (.tuple #[.int .u64 x79a, .int .u64 x79b]), .v (vP x85p x85o x85l), .h H2, .v (vP x90p x90o x90l), .v (.bool x91), .b true, .b true, .b true, .b true, .b true, .b true, .b true, .b true, .v (vP x102p x102o x102l), .h H3, .e] (ai (decide_eq_true h1) (ai h2 (ai h3 (ai h4 (ai h5 (ai h6 (ai h7 (ai h8 (ai h9 (ai h10 (ai h11 (ai h12 (ai h13 (ai h14 (ai h15 (ai h16 (ai h17 (ai h17 (ai h17 (ai (Eq.refl true) (ai (Eq.refl true) (ai (Eq.refl true) (ai (Eq.refl true) (ai (Eq.refl true) (ai h18 (ai h19 (ai h20 (ai h21 (Eq.refl (Sum.inl ([vP x2p x2o x2l, vS x7a x7n x7c, vS x8a x8n x8c, vS x11a x11n x11c, vS x12a x12n x12c, vI x49, vI x50, vS x59a x59n x59c, vI x60, vI (x61 + 1)], H3) : LS ⊕ LO)))))))))))))))))))))))))))))) (by kernel_rfl)
theorem f14_L2_1 (h1 : x61 < x60) (h2 : aX 22 (vS x59a x59n x59c) (vI x61) = some (vP x64p x64o x64l)) (h3 : getCells H x64p x64l x64o 1 = some [vI x65]) (h4 : getCells H x2p x2l (x2o + 0) 1 = some [vI x68]) (h5 : x68 ≠ 0) (h6 : Fit .i64 (x61.tdiv x68)) (h7 : aX 66 (vS x11a x11n x11c) (vI (x61.tdiv x68)) = some (vP x73p x73o x73l)) (h8 : getCells H x73p x73l x73o 1 = some [Value.int .u64 x74]) (h9 : aX 66 (vS x7a x7n x7c) (vI x65) = some (vP x77p x77o x77l)) (h10 : getCells H x77p x77l x77o 1 = some [Value.int .u64 x78]) (h11 : acall { P := cfg.P, ext := cfg.ext, cl := callInf cfg, lp := lpInf, nt := a14.nt, prot := H0.length, mt := mtOf cfg, room := true } (Value.func (Fn.func 38) #[] #[]) [Value.int .u64 x74, Value.int .u64 x78, Value.int .u64 0] H = some (Value.tuple #[Value.int .u64 x79a, Value.int .u64 x79b], H)) (h12 : aX 66 (vS x11a x11n x11c) (vI (x61.tdiv x68)) = some (vP x85p x85o x85l)) (h13 : 1 = 1) (h14 : setCells H H0.length x85p x85l x85o [Value.int .u64 x79a] = some H2) (h15 : aX 23 (vS x12a x12n x12c) (vI (x61.tdiv x68)) = some (vP x90p x90o x90l)) (h16 : getCells H2 x90p x90l x90o 1 = some [Value.bool x91]) (h17 : x91 = false) (h18 : x79b > 0) (h19 : aX 23 (vS x12a x12n x12c) (vI (x61.tdiv x68)) = some (vP x102p x102o x102l)) (h20 : 1 = 1) (h21 : setCells H2 H0.length x102p x102l x102o [Value.bool true] = some H3) (h22 : Fit .i64 (x61 + 1)) : lpOf cfg a14 2 prot H0 ([.pointer (some ⟨x2p, x2o, some x2l⟩), .slice x7a x7n x7c, .slice x8a x8n x8c, .slice x11a x11n x11c, .slice x12a x12n x12c, .int .i64 x49, .int .i64 x50, .slice x59a x59n x59c, .int .i64 x60, .int .i64 x61], H) = some (Sum.inl ([Value.pointer (some ⟨x2p, x2o, some x2l⟩), Value.slice x7a x7n x7c, Value.slice x8a x8n x8c, Value.slice x11a x11n x11c, Value.slice x12a x12n x12c, Value.int .i64 x49, Value.int .i64 x50, Value.slice x59a x59n x59c, Value.int .i64 x60, Value.int .i64 (x61 + 1)], H3)) :=
 lp_of2 [.e, .b true, .v (vP x64p x64o x64l), .v (vI x65), .v (vI x68), .e, .v (vP x73p x73o x73l), .v (.int .u64 x74), .v (vP x77p x77o x77l), .v (.int .u64 x78), .v (.tuple #[.int .u64 x79a, .int .u64 x79b]), .v (vP x85p x85o x85l), .h H2, .v (vP x90p x90o x90l), .v (.bool x91), .b false, .b false, .e, .b false, .b true, .b true, .b true, .b true, .b true, .v (vP x102p x102o x102l), .h H3, .e] (ai (decide_eq_true h1) (ai h2 (ai h3 (ai h4 (ai h5 (ai h6 (ai h7 (ai h8 (ai h9 (ai h10 (ai h11 (ai h12 (ai h13 (ai h14 (ai h15 (ai h16 (ai h17 (ai h17 (ai h17 (ai (decide_eq_true h18) (ai (decide_eq_true h18) (ai (decide_eq_true h18) (ai (decide_eq_true h18) (ai (decide_eq_true h18) (ai h19 (ai h20 (ai h21 (ai h22 (Eq.refl (Sum.inl ([vP x2p x2o x2l, vS x7a x7n x7c, vS x8a x8n x8c, vS x11a x11n x11c, vS x12a x12n x12c, vI x49, vI x50, vS x59a x59n x59c, vI x60, vI (x61 + 1)], H3) : LS ⊕ LO)))))))))))))))))))))))))))))) (by kernel_rfl)
theorem f14_L2_2 (h1 : x61 < x60) (h2 : aX 22 (vS x59a x59n x59c) (vI x61) = some (vP x64p x64o x64l)) (h3 : getCells H x64p x64l x64o 1 = some [vI x65]) (h4 : getCells H x2p x2l (x2o + 0) 1 = some [vI x68]) (h5 : x68 ≠ 0) (h6 : Fit .i64 (x61.tdiv x68)) (h7 : aX 66 (vS x11a x11n x11c) (vI (x61.tdiv x68)) = some (vP x73p x73o x73l)) (h8 : getCells H x73p x73l x73o 1 = some [Value.int .u64 x74]) (h9 : aX 66 (vS x7a x7n x7c) (vI x65) = some (vP x77p x77o x77l)) (h10 : getCells H x77p x77l x77o 1 = some [Value.int .u64 x78]) (h11 : acall { P := cfg.P, ext := cfg.ext, cl := callInf cfg, lp := lpInf, nt := a14.nt, prot := H0.length, mt := mtOf cfg, room := true } (Value.func (Fn.func 38) #[] #[]) [Value.int .u64 x74, Value.int .u64 x78, Value.int .u64 0] H = some (Value.tuple #[Value.int .u64 x79a, Value.int .u64 x79b], H)) (h12 : aX 66 (vS x11a x11n x11c) (vI (x61.tdiv x68)) = some (vP x85p x85o x85l)) (h13 : 1 = 1) (h14 : setCells H H0.length x85p x85l x85o [Value.int .u64 x79a] = some H2) (h15 : aX 23 (vS x12a x12n x12c) (vI (x61.tdiv x68)) = some (vP x90p x90o x90l)) (h16 : getCells H2 x90p x90l x90o 1 = some [Value.bool x91]) (h17 : x91 = false) (h18 : ¬(x79b > 0)) (h19 : aX 23 (vS x8a x8n x8c) (vI x65) = some (vP x99p x99o x99l)) (h20 : getCells H2 x99p x99l x99o 1 = some [Value.bool x100]) (h21 : aX 23 (vS x12a x12n x12c) (vI (x61.tdiv x68)) = some (vP x102p x102o x102l)) (h22 : 1 = 1) (h23 : setCells H2 H0.length x102p x102l x102o [Value.bool x100] = some H3) (h24 : Fit .i64 (x61 + 1)) : lpOf cfg a14 2 prot H0 ([.pointer (some ⟨x2p, x2o, some x2l⟩), .slice x7a x7n x7c, .slice x8a x8n x8c, .slice x11a x11n x11c, .slice x12a x12n x12c, .int .i64 x49, .int .i64 x50, .slice x59a x59n x59c, .int .i64 x60, .int .i64 x61], H) = some (Sum.inl ([Value.pointer (some ⟨x2p, x2o, some x2l⟩), Value.slice x7a x7n x7c, Value.slice x8a x8n x8c, Value.slice x11a x11n x11c, Value.slice x12a x12n x12c, Value.int .i64 x49, Value.int .i64 x50, Value.slice x59a x59n x59c, Value.int .i64 x60, Value.int .i64 (x61 + 1)], H3)) :=
 lp_of2 [.e, .b true, .v (vP x64p x64o x64l), .v (vI x65), .v (vI x68), .e, .v (vP x73p x73o x73l), .v (.int .u64 x74), .v (vP x77p x77o x77l), .v (.int .u64 x78), .v (.tuple #[.int .u64 x79a, .int .u64 x79b]), .v (vP x85p x85o x85l), .h H2, .v (vP x90p x90o x90l), .v (.bool x91), .b false, .b false, .e, .b false, .b false, .b false, .b false, .v (vP x99p x99o x99l), .b false, .v (.bool x100), .b false, .v (vP x102p x102o x102l), .h H3, .e] (ai (decide_eq_true h1) (ai h2 (ai h3 (ai h4 (ai h5 (ai h6 (ai h7 (ai h8 (ai h9 (ai h10 (ai h11 (ai h12 (ai h13 (ai h14 (ai h15 (ai h16 (ai h17 (ai h17 (ai h17 (ai (decide_eq_false h18) (ai (decide_eq_false h18) (ai (decide_eq_false h18) (ai h19 (ai (decide_eq_false h18) (ai h20 (ai (decide_eq_false h18) (ai h21 (ai h22 (ai h23 (ai h24 (Eq.refl (Sum.inl ([vP x2p x2o x2l, vS x7a x7n x7c, vS x8a x8n x8c, vS x11a x11n x11c, vS x12a x12n x12c, vI x49, vI x50, vS x59a x59n x59c, vI x60, vI (x61 + 1)], H3) : LS ⊕ LO)))))))))))))))))))))))))))))))) (by kernel_rfl)
theorem f14_L2_3 (h1 : ¬(x61 < x60)) : lpOf cfg a14 2 prot H0 ([.pointer (some ⟨x2p, x2o, some x2l⟩), .slice x7a x7n x7c, .slice x8a x8n x8c, .slice x11a x11n x11c, .slice x12a x12n x12c, .int .i64 x49, .int .i64 x50, .slice x59a x59n x59c, .int .i64 x60, .int .i64 x61], H) = some (Sum.inr (Ex.exit 5, [Value.pointer (some ⟨x2p, x2o, some x2l⟩), Value.slice x7a x7n x7c, Value.slice x8a x8n x8c, Value.slice x11a x11n x11c, Value.slice x12a x12n x12c, Value.int .i64 x49, Value.int .i64 x50], H)) :=
 lp_of2 [.e, .b false] (ai (decide_eq_false h1) (Eq.refl (Sum.inr (Ex.exit 5, [vP x2p x2o x2l, vS x7a x7n x7c, vS x8a x8n x8c, vS x11a x11n x11c, vS x12a x12n x12c, vI x49, vI x50], H) : LS ⊕ LO))) (by kernel_rfl)
end
end Go.Proofs.Ythjkodbinkiifaa.Am23
namespace Go.Proofs.Ythjkodbinkiifaa.Am23
open Go Go.Proofs.Ythjkodbinkiifaa.Am

theorem T66 : ElemT cfg.P 66 33 1 8 := ⟨by kernel_rfl, by kernel_rfl, by kernel_rfl, ⟨.int .u64 0, by kernel_rfl, rfl⟩, by kernel_rfl, by omega, by omega⟩
theorem ac38 {S : Am.Sys} (hS : S.ext = cfg.ext) (x y : Nat) (H : AHeap) : acall S (.func (.func 38) #[] #[]) [.int .u64 x, .int .u64 y, .int .u64 0] H = some (.tuple #[.int .u64 (((x + y) % 18446744073709551616 : Nat) : Int), .int .u64 (((x + y) / 18446744073709551616 : Nat) : Int)], H) := by
 unfold acall
 rw [hS]
 rfl

def fu (c : Nat) : Value := .int .u64 ((c % 18446744073709551616 : Nat) : Int)
def fb (c : Nat) : Value := .bool (decide (18446744073709551616 ≤ c))
def cu (C : List Nat) : List Value := C.map fu
def cb (C : List Nat) : List Value := C.map fb

/-- What the letters behind the states add up to. -/
def pass (k : Nat) (xs : List Int) (C : List Nat) : Nat → Nat → List Nat → List Nat
 | 0, _, D => D
 | d + 1, i, D => pass k xs C d (i + 1) (D.set (i / k) (D.getD (i / k) 0 + C.getD (xs.getD i 0).toNat 0))
theorem pass_len (k : Nat) (xs : List Int) (C : List Nat) : ∀ d i D, (pass k xs C d i D).length = D.length
 | 0, _, _ => rfl
 | d + 1, i, D => by simp only [pass, pass_len k xs C d, List.length_set]
def b2n (b : Bool) : Nat := if b then 1 else 0
/-- For each state the number of words of a length that lead on to an accepted one. -/
def rowC (k : Nat) (xs : List Int) (bs : List Bool) : Nat → List Nat
 | 0 => bs.map b2n
 | m + 1 => pass k xs (rowC k xs bs m) xs.length 0 (List.replicate bs.length 0)
theorem rowC_len (k : Nat) (xs : List Int) (bs : List Bool) : ∀ m, (rowC k xs bs m).length = bs.length
 | 0 => by simp [rowC]
 | m + 1 => by simp only [rowC, pass_len, List.length_replicate]

/-- What a good automaton is. -/
structure Good (k : Nat) (xs : List Int) (bs : List Bool) : Prop where
 k1 : 1 ≤ k
 k8 : k ≤ 8
 n1 : 1 ≤ bs.length
 n5 : bs.length ≤ 512
 nx : xs.length = bs.length * k
 r : ∀ (i : Nat) (x : Int), xs[i]? = some x → ∃ t : Nat, x = t ∧ t < bs.length
theorem good_of {k : Int} {xs : List Int} {bs : List Bool} (h : chkG k xs bs = 0) : ∃ k' : Nat, k = k' ∧ Good k' xs bs := by
 unfold chkG at h
 split at h
 case isFalse => cases h
 rename_i hg
 split at h
 case isFalse => cases h
 rename_i h5
 unfold good at hg
 simp only [Bool.and_eq_true, decide_eq_true_eq] at hg
 obtain ⟨⟨⟨⟨⟨h1, h2⟩, h3⟩, h4⟩, h6⟩, h7⟩ := hg
 obtain ⟨k, rfl⟩ : ∃ k' : Nat, k = k' := ⟨k.toNat, by omega⟩
 refine ⟨k, rfl, by omega, by omega, by omega, h5, by exact_mod_cast h6, fun i x hx => ?_⟩
 have := List.all_eq_true.1 h7 x (List.mem_of_getElem? hx)
 simp only [Bool.and_eq_true, decide_eq_true_eq] at this
 exact ⟨x.toNat, by omega, by omega⟩

structure St2 (k : Nat) (xs : List Int) (bs : List Bool) (H0 H : AHeap) (vN vA x7 x8 x11 x12 : Value) (o7 o8 o11 o12 : Nat) (C D : List Nat) : Prop where
 b : H[H0.length]? = some (bx k vN vA)
 n : Rd H 3 1 vN xs.length (il xs)
 lo : Low H0.length vN
 h7 : Own H 33 1 x7 (some o7) bs.length (cu C)
 h8 : Own H 4 1 x8 (some o8) bs.length (cb C)
 h11 : Own H 33 1 x11 (some o11) bs.length (cu D)
 h12 : Own H 4 1 x12 (some o12) bs.length (cb D)
 l7 : H0.length < o7
 l8 : H0.length < o8
 l11 : H0.length < o11
 l12 : H0.length < o12
 d1 : o7 ≠ o11
 d2 : o7 ≠ o12
 d3 : o8 ≠ o11
 d4 : o8 ≠ o12
 d5 : o11 ≠ o12
 d6 : o7 ≠ o8

theorem loop14e {k : Nat} {xs : List Int} {bs : List Bool} (hG : Good k xs bs) {H0 : AHeap} {prot : Nat} {x49 x50 : Int} {vN vA x7 x8 x11 x12 : Value} {o7 o8 o11 o12 : Nat} {C : List Nat} (hC : C.length = bs.length) : ∀ (d i : Nat) (D : List Nat) (H : AHeap), i + d = xs.length → D.length = bs.length →
  St2 k xs bs H0 H vN vA x7 x8 x11 x12 o7 o8 o11 o12 C D →
  ∃ H', lpInf (lpOf cfg a14 2 prot H0) ([.pointer (some ⟨H0.length, 0, some 3⟩), x7, x8, x11, x12, .int .i64 x49, .int .i64 x50, vN, .int .i64 xs.length, .int .i64 i], H) =
   some (.exit 5, [.pointer (some ⟨H0.length, 0, some 3⟩), x7, x8, x11, x12, .int .i64 x49, .int .i64 x50], H') ∧ St2 k xs bs H0 H' vN vA x7 x8 x11 x12 o7 o8 o11 o12 C (pass k xs C d i D) ∧ H'.length = H.length
 | 0, i, D, H, hi, hD, h => by
  obtain ⟨_, _, rfl⟩ := h.h7.len
  obtain ⟨_, _, rfl⟩ := h.h8.len
  obtain ⟨_, _, rfl⟩ := h.h11.len
  obtain ⟨_, _, rfl⟩ := h.h12.len
  obtain ⟨_, _, rfl⟩ := h.n.len
  exact ⟨H, lp_last (f14_L2_3 (by omega)), h, rfl⟩
 | d + 1, i, D, H, hi, hD, h => by
  obtain ⟨a7, c7, rfl⟩ := h.h7.len
  obtain ⟨a8, c8, rfl⟩ := h.h8.len
  obtain ⟨a11, c11, rfl⟩ := h.h11.len
  obtain ⟨a12, c12, rfl⟩ := h.h12.len
  obtain ⟨aN, cN, rfl⟩ := h.n.len
  have hk := hG.k1
  have hn5 := hG.n5
  have hk8 := hG.k8
  have hxl := hG.nx
  have hb8 : bs.length * k ≤ 512 * 8 := Nat.mul_le_mul hn5 hk8
  have hil : i < xs.length := by omega
  obtain ⟨t, ht, htl⟩ := hG.r i xs[i] (List.getElem?_eq_getElem hil)
  have hs : i / k < bs.length := Nat.div_lt_of_lt_mul (by rw [Nat.mul_comm]; omega)
  obtain ⟨g0, g1, g2, _⟩ := fld3 h.b
  obtain ⟨idN, LN, n1, n2⟩ := rd_at T22 h.n (il_get hil)
  rw [ht] at n2
  have etd : (i : Int).tdiv (k : Int) = ((i / k : Nat) : Int) := by rw [Int.ofNat_tdiv]
  have hDs : (cu D)[i / k]? = some (fu (D.getD (i / k) 0)) := by simp [cu, List.getD_eq_getElem?_getD, List.getElem?_eq_getElem (show i / k < D.length by omega)]
  have hDb : (cb D)[i / k]? = some (fb (D.getD (i / k) 0)) := by simp [cb, List.getD_eq_getElem?_getD, List.getElem?_eq_getElem (show i / k < D.length by omega)]
  have hCt : (cu C)[t]? = some (fu (C.getD t 0)) := by simp [cu, List.getD_eq_getElem?_getD, List.getElem?_eq_getElem (show t < C.length by omega)]
  have hCb : (cb C)[t]? = some (fb (C.getD t 0)) := by simp [cb, List.getD_eq_getElem?_getD, List.getElem?_eq_getElem (show t < C.length by omega)]
  obtain ⟨c, hcdef⟩ : ∃ c, D.getD (i / k) 0 = c := ⟨_, rfl⟩
  obtain ⟨e, hedef⟩ : ∃ e, C.getD t 0 = e := ⟨_, rfl⟩
  rw [hcdef] at hDs hDb
  rw [hedef] at hCt hCb
  obtain ⟨_, e1, p1, p2⟩ := own_at T66 h.h11 hDs
  cases e1
  obtain ⟨_, e2, q1, q2⟩ := own_at T66 h.h7 hCt
  cases e2
  have hadd := ac38 (S := { P := cfg.P, ext := cfg.ext, cl := callInf cfg, lp := lpInf, nt := a14.nt, prot := H0.length, mt := mtOf cfg, room := false }) rfl (c % 18446744073709551616) (e % 18446744073709551616) H
  have hmod : (c % 18446744073709551616 + e % 18446744073709551616) % 18446744073709551616 = (c + e) % 18446744073709551616 := by omega
  rw [hmod] at hadd
  obtain ⟨_, H2, e3, s1, s2, s3, s4, s5⟩ := own_setS T66 h.h11 (i := i / k) (j := 0) hs (vs := [fu (c + e)]) (by simp) rfl (prot := H0.length) (fun id hh => by cases hh; have := h.l11; omega)
  cases e3
  rw [show cu D = D.map fu from rfl, put_map fu D (by omega)] at s3
  have w12 := h.h12.stay s4 (fun id h1 h2 => by cases h1; cases h2; exact h.d5 rfl)
  have w8 := h.h8.stay s4 (fun id h1 h2 => by cases h1; cases h2; exact h.d3 rfl)
  have w7 := h.h7.stay s4 (fun id h1 h2 => by cases h1; cases h2; exact h.d1 rfl)
  obtain ⟨_, e4, r1, r2⟩ := own_at T23 w12 hDb
  cases e4
  obtain ⟨_, H3, e5, t1, t2, t3, t4, t5⟩ := own_setS T23 w12 (i := i / k) (j := 0) hs (vs := [fb (c + e)]) (by simp) rfl (prot := H0.length) (fun id hh => by cases hh; have := h.l12; omega)
  cases e5
  rw [show cb D = D.map fb from rfl, put_map fb D (by omega)] at t3
  have hbx : H3[H0.length]? = some (bx k (.slice aN xs.length cN) vA) := by
   rw [t4.2 _ (by have := (List.getElem?_eq_some_iff.1 h.b).1; omega) (fun hh => by cases hh; have := h.l12; omega), s4.2 _ (List.getElem?_eq_some_iff.1 h.b).1 (fun hh => by cases hh; have := h.l11; omega)]
   exact h.b
  have hst : St2 k xs bs H0 H3 (.slice aN xs.length cN) vA (.slice a7 bs.length c7) (.slice a8 bs.length c8) (.slice a11 bs.length c11) (.slice a12 bs.length c12) o7 o8 o11 o12 C (D.set (i / k) (c + e)) :=
   ⟨hbx, (h.n.stayLow h.lo s4 (fun id hh => by cases hh; have := h.l11; omega)).stayLow h.lo t4 (fun id hh => by cases hh; have := h.l12; omega), h.lo,
    w7.stay t4 (fun id h1 h2 => by cases h1; cases h2; exact h.d2 rfl), w8.stay t4 (fun id h1 h2 => by cases h1; cases h2; exact h.d4 rfl), s3.stay t4 (fun id h1 h2 => by cases h1; cases h2; exact h.d5 rfl), t3, h.l7, h.l8, h.l11, h.l12, h.d1, h.d2, h.d3, h.d4, h.d5, h.d6⟩
  have hpass : pass k xs C (d + 1) i D = pass k xs C d (i + 1) (D.set (i / k) (c + e)) := by
   simp only [pass]
   have : xs.getD i 0 = t := by rw [List.getD_eq_getElem?_getD, List.getElem?_eq_getElem hil, ht]; rfl
   rw [this, Int.toNat_natCast, hcdef, hedef]
  obtain ⟨H', u1, u2, u3⟩ := loop14e hG hC (x49 := x49) (x50 := x50) (prot := prot) d (i + 1) _ H3 (by omega) (by simp; omega) hst
  refine ⟨H', ?_, by rw [hpass]; exact u2, by omega⟩
  have hkz : (k : Int) ≠ 0 := by omega
  have hfit : Fit .i64 ((i : Int).tdiv (k : Int)) := by rw [etd]; exact fit64 (Int.le_trans (by decide) (Int.natCast_nonneg (i / k))) (Int.le_trans (Int.ofNat_le.2 (Nat.le_of_lt hs)) (by omega))
  have hfi : Fit .i64 ((i : Int) + 1) := fit64 (by omega) (by omega)
  rw [← etd] at p1 s1 r1 t1
  by_cases hw : 18446744073709551616 ≤ c
  ·have hb1 : fb c = .bool true := by unfold fb; rw [decide_eq_true hw]
   have hb2 : fb (c + e) = .bool true := by unfold fb; rw [decide_eq_true (by omega)]
   rw [hb1] at r2
   rw [hb2] at t2
   exact lp_next (f14_L2_0 (by omega) n1 n2 g0 hkz hfit p1 p2 q1 q2 hadd s1 rfl s2 r1 r2 rfl t1 rfl t2 hfi) u1
  ·have hb1 : fb c = .bool false := by unfold fb; rw [decide_eq_false hw]
   rw [hb1] at r2
   by_cases hcar : 0 < (c % 18446744073709551616 + e % 18446744073709551616) / 18446744073709551616
   ·have hb2 : fb (c + e) = .bool true := by unfold fb; rw [decide_eq_true (by omega)]
    rw [hb2] at t2
    exact lp_next (f14_L2_1 (by omega) n1 n2 g0 hkz hfit p1 p2 q1 q2 hadd s1 rfl s2 r1 r2 rfl (by omega) t1 rfl t2 hfi) u1
   ·have hb2 : fb (c + e) = fb e := by
     unfold fb
     have : decide (18446744073709551616 ≤ c + e) = decide (18446744073709551616 ≤ e) := by
      rw [decide_eq_decide]
      omega
     rw [this]
    rw [hb2] at t2
    obtain ⟨_, e6, y1, y2⟩ := own_at T23 w8 hCb
    cases e6
    exact lp_next (f14_L2_2 (by omega) n1 n2 g0 hkz hfit p1 p2 q1 q2 hadd s1 rfl s2 r1 r2 rfl (by omega) y1 y2 t1 rfl t2 hfi) u1
end Go.Proofs.Ythjkodbinkiifaa.Am23
namespace Go.Proofs.Ythjkodbinkiifaa.Am
open Go

/-- The text of some byte codes. -/
def bstr (l : List Nat) : ByteArray := ⟨(l.map fun n => UInt8.ofNat n).toArray⟩
theorem bstr_append (a b : List Nat) : bstr a ++ bstr b = bstr (a ++ b) := by
 apply ByteArray.ext
 simp [bstr, ByteArray.data_append]
theorem bstr_size (a : List Nat) : (bstr a).size = a.length := by
 show (bstr a).data.size = _
 simp [bstr]
theorem encB_0 : Utf8.encode (97 + ((0 : Nat) : Int)) = bstr [97 + 0] := by kernel_rfl
theorem encB_1 : Utf8.encode (97 + ((1 : Nat) : Int)) = bstr [97 + 1] := by kernel_rfl
theorem encB_2 : Utf8.encode (97 + ((2 : Nat) : Int)) = bstr [97 + 2] := by kernel_rfl
theorem encB_3 : Utf8.encode (97 + ((3 : Nat) : Int)) = bstr [97 + 3] := by kernel_rfl
theorem encB_4 : Utf8.encode (97 + ((4 : Nat) : Int)) = bstr [97 + 4] := by kernel_rfl
theorem encB_5 : Utf8.encode (97 + ((5 : Nat) : Int)) = bstr [97 + 5] := by kernel_rfl
theorem encB_6 : Utf8.encode (97 + ((6 : Nat) : Int)) = bstr [97 + 6] := by kernel_rfl
theorem encB_7 : Utf8.encode (97 + ((7 : Nat) : Int)) = bstr [97 + 7] := by kernel_rfl
/-- A word, given by its letters. -/
def lw (w : List Nat) : ByteArray := bstr (w.map (97 + ·))
theorem lw_append (a b : List Nat) : lw a ++ lw b = lw (a ++ b) := by unfold lw; rw [bstr_append, List.map_append]
theorem lw_size (a : List Nat) : (lw a).size = a.length := by unfold lw; rw [bstr_size, List.length_map]
theorem lw_enc {l : Nat} (h : l < 8) : Utf8.encode (97 + (l : Int)) = lw [l] := by
 have : l = 0 ∨ l = 1 ∨ l = 2 ∨ l = 3 ∨ l = 4 ∨ l = 5 ∨ l = 6 ∨ l = 7 := by omega
 rcases this with rfl | rfl | rfl | rfl | rfl | rfl | rfl | rfl
 ·exact encB_0
 ·exact encB_1
 ·exact encB_2
 ·exact encB_3
 ·exact encB_4
 ·exact encB_5
 ·exact encB_6
 ·exact encB_7

theorem keep1_own {H1 : AHeap} {m : Nat} {e s n id : Nat} {x : Value} {cs : List Value} (h : Own H1 e s x (some id) n cs) (hid : m ≤ id) (hp : cs.all plain0 = true) (acc : List AObj) :
  ∃ wr, wr ≤ cs.length ∧ keep1 m H1 x acc = some (.slice (some ⟨m + acc.length, 0, some cs.length⟩) n n, acc ++ [.cells cs e wr .row]) := by
 obtain ⟨hl, hn, rfl, wr, hwr, hH⟩ := h
 refine ⟨wr, hwr, ?_⟩
 simp only [keep1]
 rw [if_neg (by omega), hH]
 simp [hp]
/-- Two rows that are handed back. -/
theorem gc_two {H H1 : AHeap} {e1 e2 s1 s2 n1 n2 p q : Nat} {x y : Value} {cs ds : List Value} (hx : Own H1 e1 s1 x (some p) n1 cs) (hy : Own H1 e2 s2 y (some q) n2 ds) (hp : H.length ≤ p) (hq : H.length ≤ q) (hpq : p ≠ q)
  (hc : cs.all plain0 = true) (hd : ds.all plain0 = true) :
  ∃ x' y' H', gc H [x, y] H1 = (.tuple #[x', y'], H') ∧ Own H' e1 s1 x' (some H.length) n1 cs ∧ Own H' e2 s2 y' (some (H.length + 1)) n2 ds ∧ Stay none H H' ∧ H'.length = H.length + 2 := by
 obtain ⟨w1, hw1, k1⟩ := keep1_own hx hp hc []
 obtain ⟨w2, hw2, k2⟩ := keep1_own hy hq hd ([] ++ [.cells cs e1 w1 .row])
 refine ⟨_, _, H ++ [.cells cs e1 w1 .row, .cells ds e2 w2 .row], ?_, ⟨hx.1, hx.2.1, rfl, w1, hw1, by simp⟩, ⟨hy.1, hy.2.1, rfl, w2, hw2, ?_⟩, Stay.app none H _, by simp⟩
 ·unfold gc
  have hnd : noDup (sliceIds [x, y]) = true := by
   obtain ⟨_, _, rfl, _⟩ := hx
   obtain ⟨_, _, rfl, _⟩ := hy
   simp [sliceIds, noDup, hpq]
  rw [if_pos hnd]
  simp only [keepAll]
  rw [k1, Option.bind_some, k2]
  simp only [Option.bind_some, Option.map_some]
  rfl
 ·simp

/-- A list is copied behind nothing. -/
theorem own_grow {P : Program} {t e s by_ : Nat} (T : ElemT P t e s by_) {H : AHeap} {x y : Value} (hx : x = .slice none 0 0 ∨ x = emptySlice) {n : Nat} {cs : List Value} (hy : Rd H e s y n cs) (hc : cs.all isCell = true) {prot : Nat} {room : Bool} (hroom : n * by_ ≤ 140737488355328) :
  ∃ a c o H', aappend P prot room t t x y H = some (.slice a n c, H') ∧ Own H' e s (.slice a n c) o n cs ∧ Stay none H H' ∧ (∀ id, o = some id → H.length ≤ id) ∧ (0 < n → o = some H.length) := by
 obtain ⟨z, hz, hzl⟩ := T.ze
 have hsrc := rd_src (s := s) T.un hy
 have hlen := hy.1
 have hs := T.s0
 have hb := T.b0
 have key : ∀ r, (match x with
   | .slice none 0 0 => if n = 0 then some (.slice none 0 0, H) else if n * by_ ≤ 140737488355328 then some (sliceTo H (n * s) n, newObj H cs e) else none
   | .slice (some ⟨0, 0, none⟩) 0 0 => if n = 0 then some (emptySlice, H) else if n * by_ ≤ 140737488355328 then some (sliceTo H (n * s) n, newObj H cs e) else none
   | _ => none) = some r → aappend P prot room t t x y H = some r := fun r hr => by
  unfold aappend
  rw [T.sl]
  simp only [Option.bind_some]
  rw [T.sz]
  simp only [Option.bind_some]
  rw [T.bt]
  simp only [Option.bind_some]
  rw [hz]
  simp only [Option.bind_some]
  rw [if_pos ⟨trivial, hs, hb, hzl⟩, hsrc]
  simp only [Option.bind_some]
  rw [if_pos ⟨hlen, hc⟩]
  rcases hx with rfl | rfl
  ·exact hr
  ·exact hr
 by_cases hn : n = 0
 ·subst hn
  have hcs : cs = [] := List.length_eq_zero_iff.1 (by omega)
  subst hcs
  rcases hx with rfl | rfl
  ·exact ⟨_, _, none, H, key _ rfl, own_nil, Stay.refl _ _, fun id h => (by cases h), fun h => (by omega)⟩
  ·exact ⟨_, _, none, H, key _ rfl, ⟨by simp, rfl, .inr rfl⟩, Stay.refl _ _, fun id h => (by cases h), fun h => (by omega)⟩
 ·refine ⟨_, _, some H.length, _, key (sliceTo H (n * s) n, newObj H cs e) ?_, own_new hlen (by omega) (by rw [hlen]) rfl, Stay.app none H _, fun id h => by cases h; exact Nat.le_refl _, fun _ => rfl⟩
  rcases hx with rfl | rfl
  ·simp only
   rw [if_neg hn, if_pos hroom]
  ·simp only [emptySlice]
   rw [if_neg hn, if_pos hroom]
end Go.Proofs.Ythjkodbinkiifaa.Am
namespace Go.Proofs.Ythjkodbinkiifaa.Am23
open Go Go.Proofs.Ythjkodbinkiifaa.Am

/-! ### The least words, as they are searched -/
structure Bf where
 met : List Bool
 ws : List (List Nat)
 q : List (Nat × List Nat)

/-- Where a letter leads. -/
def tgt (k : Nat) (xs : List Int) (s c : Nat) : Nat := (xs.getD (s * k + c) 0).toNat
def bstep (k : Nat) (xs : List Int) (s : Nat) (w : List Nat) (c : Nat) (b : Bf) : Bf :=
 if b.met.getD (tgt k xs s c) false then b else ⟨b.met.set (tgt k xs s c) true, b.ws.set (tgt k xs s c) (w ++ [c]), b.q ++ [(tgt k xs s c, w ++ [c])]⟩
def brow (k : Nat) (xs : List Int) (s : Nat) (w : List Nat) : Nat → Nat → Bf → Bf
 | 0, _, b => b
 | d + 1, c, b => brow k xs s w d (c + 1) (bstep k xs s w c b)
def brun (k : Nat) (xs : List Int) : Nat → Nat → Bf → Bf
 | 0, _, b => b
 | f + 1, i, b =>
  match b.q[i]? with
  | none => b
  | some (s, w) => brun k xs f (i + 1) (brow k xs s w k 0 b)
def bini (n a : Nat) (empty : Bool) : Bf := ⟨(List.replicate n false).set a empty, List.replicate n [], [(a, [])]⟩
/-- For each state the least word that leads there from one. -/
def bfs (k : Nat) (xs : List Int) (n a : Nat) (empty : Bool) : Bf := brun k xs (n + 2) 0 (bini n a empty)

def unmet (m : List Bool) : Nat := m.countP (!·)
structure BOk (n : Nat) (b : Bf) : Prop where
 lm : b.met.length = n
 lw : b.ws.length = n
 q : ∀ (j t : Nat) (w : List Nat), b.q[j]? = some (t, w) → t < n ∧ w.length ≤ j
 u : unmet b.met + b.q.length ≤ n + 1
theorem unmet_set : ∀ (m : List Bool) (t : Nat), t < m.length → m.getD t false = false → unmet (m.set t true) + 1 = unmet m
 | [], _, h, _ => by simp at h
 | b :: m, 0, _, h => by
  have : b = false := by simpa using h
  subst this
  simp [unmet]
 | b :: m, t + 1, h, h2 => by
  have := unmet_set m t (by simpa using h) (by simpa using h2)
  simp only [unmet, List.set_cons_succ, List.countP_cons] at this ⊢
  omega
theorem unmet_le (m : List Bool) : unmet m ≤ m.length := List.countP_le_length
theorem BOk.ini {n a : Nat} (ha : a < n) (e : Bool) : BOk n (bini n a e) := by
 refine ⟨by simp [bini], by simp [bini], fun j t w h => ?_, ?_⟩
 ·simp only [bini] at h
  cases j with
  | zero => simp at h; obtain ⟨rfl, rfl⟩ := h; exact ⟨ha, by simp⟩
  | succ j => simp at h
 ·have := unmet_le ((List.replicate n false).set a e)
  simp only [List.length_set, List.length_replicate] at this
  simp only [bini, List.length_singleton]
  omega
theorem tgt_lt {k : Nat} {xs : List Int} {bs : List Bool} (hG : Good k xs bs) {s c : Nat} (hs : s < bs.length) (hc : c < k) :
  s * k + c < xs.length ∧ tgt k xs s c < bs.length ∧ xs[s * k + c]? = some ((tgt k xs s c : Nat) : Int) := by
 have hxl := hG.nx
 have h1 := Nat.mul_le_mul (show s + 1 ≤ bs.length by omega) (Nat.le_refl k)
 rw [Nat.add_mul, Nat.one_mul] at h1
 have hi : s * k + c < xs.length := by omega
 obtain ⟨t, ht, htl⟩ := hG.r _ _ (List.getElem?_eq_getElem hi)
 have : tgt k xs s c = t := by unfold tgt; rw [List.getD_eq_getElem?_getD, List.getElem?_eq_getElem hi, ht]; rfl
 rw [this]
 exact ⟨hi, htl, by rw [List.getElem?_eq_getElem hi, ht]⟩
theorem BOk.step {k : Nat} {xs : List Int} {bs : List Bool} (hG : Good k xs bs) {b : Bf} (h : BOk bs.length b) {i s c : Nat} {w : List Nat} (hq : b.q[i]? = some (s, w)) (hc : c < k) : BOk bs.length (bstep k xs s w c b) := by
 unfold bstep
 split
 ·exact h
 ·rename_i hm
  have hm : b.met.getD (tgt k xs s c) false = false := by simpa using hm
  obtain ⟨hs, hw⟩ := h.q _ _ _ hq
  obtain ⟨_, ht, _⟩ := tgt_lt hG hs hc
  have hiq := (List.getElem?_eq_some_iff.1 hq).1
  have hu := unmet_set b.met (tgt k xs s c) (by rw [h.lm]; exact ht) hm
  refine ⟨by simp [h.lm], by simp [h.lw], fun j t w' hj => ?_, ?_⟩
  ·simp only at hj
   rcases Nat.lt_or_ge j b.q.length with h1 | h1
   ·rw [List.getElem?_append_left h1] at hj
    exact h.q _ _ _ hj
   ·rw [List.getElem?_append_right h1] at hj
    have : j - b.q.length = 0 := by
     have := (List.getElem?_eq_some_iff.1 hj).1
     simpa using this
    rw [this] at hj
    simp only [List.getElem?_cons_zero, Option.some.injEq, Prod.mk.injEq] at hj
    obtain ⟨rfl, rfl⟩ := hj
    refine ⟨ht, ?_⟩
    rw [List.length_append, List.length_singleton]
    omega
  ·simp only [List.length_append, List.length_singleton]
   have := h.u
   omega
theorem bstep_q {k : Nat} {xs : List Int} {s c : Nat} {w : List Nat} {b : Bf} {i : Nat} {p : Nat × List Nat} (h : b.q[i]? = some p) : (bstep k xs s w c b).q[i]? = some p := by
 unfold bstep
 split
 ·exact h
 ·simp only
  rw [List.getElem?_append_left (List.getElem?_eq_some_iff.1 h).1]
  exact h
theorem brow_q {k : Nat} {xs : List Int} {s : Nat} {w : List Nat} {i : Nat} {p : Nat × List Nat} : ∀ (d c : Nat) (b : Bf), b.q[i]? = some p → (brow k xs s w d c b).q[i]? = some p
 | 0, _, _, h => h
 | d + 1, c, _, h => brow_q d (c + 1) _ (bstep_q h)
theorem BOk.row {k : Nat} {xs : List Int} {bs : List Bool} (hG : Good k xs bs) {i s : Nat} {w : List Nat} : ∀ (d c : Nat) (b : Bf), c + d = k → BOk bs.length b → b.q[i]? = some (s, w) → BOk bs.length (brow k xs s w d c b)
 | 0, _, _, _, h, _ => h
 | d + 1, c, b, hd, h, hq => BOk.row hG d (c + 1) _ (by omega) (h.step hG hq (by omega)) (bstep_q hq)
theorem BOk.run {k : Nat} {xs : List Int} {bs : List Bool} (hG : Good k xs bs) : ∀ (f i : Nat) (b : Bf), BOk bs.length b → BOk bs.length (brun k xs f i b)
 | 0, _, _, h => h
 | f + 1, i, b, h => by
  unfold brun
  split
  ·exact h
  ·rename_i s w hq
   exact BOk.run hG f (i + 1) _ (h.row hG k 0 b (by omega) hq)
theorem bfs_ok {k : Nat} {xs : List Int} {bs : List Bool} (hG : Good k xs bs) {a : Nat} (ha : a < bs.length) (e : Bool) : BOk bs.length (bfs k xs bs.length a e) := BOk.run hG _ _ _ (BOk.ini ha e)

def sl (l : List (List Nat)) : List Value := l.map fun w => .string (lw w)
def qc (l : List (Nat × List Nat)) : List Value := l.flatMap fun p => [.int .i64 p.1, .string (lw p.2)]
theorem qc_drop : ∀ (i : Nat) l, (qc l).drop (i * 2) = qc (l.drop i)
 | 0, l => by simp
 | i + 1, [] => by simp [qc]
 | i + 1, p :: l => by
  rw [show (i + 1) * 2 = (i * 2) + 1 + 1 by omega]
  show (qc l).drop (i * 2) = _
  rw [qc_drop i l]
  rfl
theorem sl_cell (l) : (sl l).all plain0 = true := by
 rw [List.all_eq_true]; intro v hv; obtain ⟨n, _, rfl⟩ := List.mem_map.1 hv; rfl
theorem bll_cell (l) : (bll l).all plain0 = true := by
 rw [List.all_eq_true]; intro v hv; obtain ⟨n, _, rfl⟩ := List.mem_map.1 hv; rfl
end Go.Proofs.Ythjkodbinkiifaa.Am23
namespace Go.Proofs.Ythjkodbinkiifaa.Am23
open Go Go.Proofs.Ythjkodbinkiifaa.Am

theorem own_make {e : Nat} (f : Nat → Value) {n : Nat} (hn : 0 < n) (H : AHeap) (c0 : Value) (hf : f 0 = c0) : Own (H ++ [.cells (repCells [c0] n) e (repCells [c0] n).length .row]) e 1 (.slice (some ⟨H.length, 0, some (n * 1)⟩) n n) (some H.length) n ((List.replicate n 0).map f) := by
 subst hf
 rw [rep_map f 0 n]
 exact own_new (by simp) hn (by simp) rfl

structure St1 (k : Nat) (xs : List Int) (bs : List Bool) (H0 H : AHeap) (vN vA x7 x8 : Value) (o7 o8 : Nat) (C : List Nat) : Prop where
 b : H[H0.length]? = some (bx k vN vA)
 n : Rd H 3 1 vN xs.length (il xs)
 lo : Low H0.length vN
 h7 : Own H 33 1 x7 (some o7) bs.length (cu C)
 h8 : Own H 4 1 x8 (some o8) bs.length (cb C)
 l7 : H0.length < o7
 l8 : H0.length < o8
 d6 : o7 ≠ o8

theorem cu_cell (C : List Nat) : (cu C).all isCell = true := by
 rw [List.all_eq_true]; intro v hv; obtain ⟨n, _, rfl⟩ := List.mem_map.1 hv; rfl
theorem cb_cell (C : List Nat) : (cb C).all isCell = true := by
 rw [List.all_eq_true]; intro v hv; obtain ⟨n, _, rfl⟩ := List.mem_map.1 hv; rfl
theorem own_lt {H : AHeap} {e s : Nat} {x : Value} {id n : Nat} {cs : List Value} (h : Own H e s x (some id) n cs) : id < H.length := (List.getElem?_eq_some_iff.1 h.2.2.2.choose_spec.2).1

theorem loop14r {k : Nat} {xs : List Int} {bs : List Bool} (hG : Good k xs bs) {H0 : AHeap} {prot : Nat} {m : Nat} (hm : m ≤ 4096) {vN vA x7 x8 : Value} {o7 o8 : Nat} : ∀ (d i : Nat) (H : AHeap), i + d = m →
  St1 k xs bs H0 H vN vA x7 x8 o7 o8 (rowC k xs bs i) →
  ∃ a7 c7 a8 c8 H', lpInf (lpOf cfg a14 1 prot H0) ([.pointer (some ⟨H0.length, 0, some 3⟩), x7, x8, .int .i64 m, .int .i64 i], H) = some (.exit 3, [.slice a7 bs.length c7, .slice a8 bs.length c8], H') ∧ St1 k xs bs H0 H' vN vA (.slice a7 bs.length c7) (.slice a8 bs.length c8) o7 o8 (rowC k xs bs m)
 | 0, i, H, hi, h => by
  obtain ⟨a7, c7, rfl⟩ := h.h7.len
  obtain ⟨a8, c8, rfl⟩ := h.h8.len
  have : i = m := by omega
  subst this
  exact ⟨a7, c7, a8, c8, H, lp_last (f14_L1_1 (by omega)), h⟩
 | d + 1, i, H, hi, h => by
  obtain ⟨a7, c7, rfl⟩ := h.h7.len
  obtain ⟨a8, c8, rfl⟩ := h.h8.len
  obtain ⟨aN, cN, rfl⟩ := h.n.len
  have hn1 := hG.n1
  have hn5 := hG.n5
  obtain ⟨HA, hHA⟩ : ∃ HA, HA = H ++ [AObj.cells (repCells [.int .u64 0] bs.length) 33 (repCells [.int .u64 0] bs.length).length .row] := ⟨_, rfl⟩
  obtain ⟨HB, hHB⟩ : ∃ HB, HB = HA ++ [AObj.cells (repCells [.bool false] bs.length) 4 (repCells [.bool false] bs.length).length .row] := ⟨_, rfl⟩
  have lA : HA.length = H.length + 1 := by rw [hHA]; simp
  have lB : HB.length = H.length + 2 := by rw [hHB]; simp; omega
  have hAB : Stay none HA HB := by rw [hHB]; exact Stay.app none HA _
  have hHB' : Stay none H HB := (show Stay none H HA by rw [hHA]; exact Stay.app none H _).trans hAB
  have lb := (List.getElem?_eq_some_iff.1 h.b).1
  have m1 : Own HA 33 1 (.slice (some ⟨H.length, 0, some (bs.length * 1)⟩) bs.length bs.length) (some H.length) bs.length (cu (List.replicate bs.length 0)) := by
   rw [hHA]; exact own_make fu hn1 H (.int .u64 0) rfl
  have m2 : Own HB 4 1 (.slice (some ⟨HA.length, 0, some (bs.length * 1)⟩) bs.length bs.length) (some HA.length) bs.length (cb (List.replicate bs.length 0)) := by
   rw [hHB]; exact own_make fb hn1 HA (.bool false) rfl
  have nn := fun (o : Nat) (v : Value) (e : Nat) (cs : List Value) (hh : Own H e 1 v (some o) bs.length cs) => hh.stay hHB' (fun _ _ h => by cases h)
  have st : St2 k xs bs H0 HB (.slice aN xs.length cN) vA (.slice a7 bs.length c7) (.slice a8 bs.length c8) (.slice (some ⟨H.length, 0, some (bs.length * 1)⟩) bs.length bs.length) (.slice (some ⟨HA.length, 0, some (bs.length * 1)⟩) bs.length bs.length) o7 o8 H.length HA.length (rowC k xs bs i) (List.replicate bs.length 0) :=
   ⟨by rw [hHB'.2 _ lb (by simp)]; exact h.b, h.n.stay hHB', h.lo, nn _ _ _ _ h.h7, nn _ _ _ _ h.h8, m1.stay hAB (fun _ _ h => by cases h), m2, h.l7, h.l8, by omega, by omega, by have := own_lt h.h7; omega, by have := own_lt h.h7; omega, by have := own_lt h.h8; omega, by have := own_lt h.h8; omega, by omega, h.d6⟩
  obtain ⟨H', u1, u2, u3⟩ := loop14e hG (rowC_len k xs bs i) (x49 := m) (x50 := i) (prot := prot) xs.length 0 _ HB (by omega) (by simp) st
  have hrow : pass k xs (rowC k xs bs i) xs.length 0 (List.replicate bs.length 0) = rowC k xs bs (i + 1) := rfl
  rw [hrow] at u2
  obtain ⟨H3, v1, v2, v3, v4⟩ := own_copy T66 u2.h7 u2.h11.rd (prot := H0.length) (by have := h.l7; omega) (cu_cell _)
  have w8 := u2.h8.stay v3 (fun id h1 h2 => by cases h1; cases h2; exact h.d6 rfl)
  have w12 := u2.h12.stay v3 (fun id h1 h2 => by cases h1; cases h2; exact u2.d2 rfl)
  obtain ⟨H4, y1, y2, y3, y4⟩ := own_copy T23 w8 w12.rd (prot := H0.length) (by have := h.l8; omega) (cb_cell _)
  have st' : St1 k xs bs H0 H4 (.slice aN xs.length cN) vA (.slice a7 bs.length c7) (.slice a8 bs.length c8) o7 o8 (rowC k xs bs (i + 1)) := by
   refine ⟨?_, (u2.n.stayLow h.lo v3 (fun id hh => by cases hh; have := h.l7; omega)).stayLow h.lo y3 (fun id hh => by cases hh; have := h.l8; omega), h.lo, v2.stay y3 (fun id h1 h2 => by cases h1; cases h2; exact h.d6 rfl), y2, h.l7, h.l8, h.d6⟩
   rw [y3.2 _ (by omega) (fun hh => by cases hh; have := h.l8; omega), v3.2 _ (by omega) (fun hh => by cases hh; have := h.l7; omega)]
   exact u2.b
  obtain ⟨z1, z2, z3, z4, H5, q1, q2⟩ := loop14r hG (prot := prot) hm d (i + 1) H4 (by omega) st'
  refine ⟨z1, z2, z3, z4, H5, lp_next ?_ q1, q2⟩
  obtain ⟨_, g1, _⟩ := fld3 st.b
  subst hHB; subst hHA
  exact f14_L1_0 (by omega) (by omega) rfl (by omega) (by omega) (by omega) g1 u1 v1 y1 (fit64 (by omega) (by omega))

theorem loop14i {k : Nat} {xs : List Int} {bs : List Bool} (hG : Good k xs bs) {H0 : AHeap} {prot : Nat} {m : Int} {vN vA x7 x8 : Value} {o7 o8 : Nat} : ∀ (d i : Nat) (H : AHeap), i + d = bs.length →
  St1 k xs bs H0 H vN vA x7 x8 o7 o8 ((bs.take i).map b2n ++ List.replicate d 0) → Rd H 4 1 vA bs.length (bll bs) → Low H0.length vA →
  ∃ a7 c7 a8 c8 H', lpInf (lpOf cfg a14 0 prot H0) ([.int .i64 m, .pointer (some ⟨H0.length, 0, some 3⟩), x7, x8, vA, .int .i64 bs.length, .int .i64 i], H) = some (.exit 1, [.int .i64 m, .pointer (some ⟨H0.length, 0, some 3⟩), .slice a7 bs.length c7, .slice a8 bs.length c8], H') ∧
   x7 = .slice a7 bs.length c7 ∧ x8 = .slice a8 bs.length c8 ∧ St1 k xs bs H0 H' vN vA x7 x8 o7 o8 (rowC k xs bs 0)
 | 0, i, H, hi, h, hA, hl => by
  obtain ⟨a7, c7, rfl⟩ := h.h7.len
  obtain ⟨a8, c8, rfl⟩ := h.h8.len
  obtain ⟨aA, cA, rfl⟩ := hA.len
  have : i = bs.length := by omega
  subst this
  rw [List.take_length, List.replicate_zero, List.append_nil] at h
  exact ⟨a7, c7, a8, c8, H, lp_last (f14_L0_2 (by omega)), rfl, rfl, h⟩
 | d + 1, i, H, hi, h, hA, hl => by
  obtain ⟨a7, c7, rfl⟩ := h.h7.len
  obtain ⟨a8, c8, rfl⟩ := h.h8.len
  obtain ⟨aA, cA, rfl⟩ := hA.len
  have hn5 := hG.n5
  have hil : i < bs.length := by omega
  obtain ⟨idA, LA, n1, n2⟩ := rd_at T23 hA (bll_get hil)
  have htk : (bs.take (i + 1)).map b2n = (bs.take i).map b2n ++ [b2n bs[i]] := by
   rw [List.take_add_one, List.getElem?_eq_getElem hil, List.map_append]; rfl
  have hlen : ((bs.take i).map b2n ++ List.replicate (d + 1) 0).length = bs.length := by simp; omega
  cases hb : bs[i] with
  | true =>
   obtain ⟨_, H2, e3, s1, s2, s3, s4, s5⟩ := own_setS T66 h.h7 (i := i) (j := 0) hil (vs := [fu 1]) (by simp) rfl (prot := H0.length) (fun id hh => by cases hh; have := h.l7; omega)
   cases e3
   rw [show cu ((bs.take i).map b2n ++ List.replicate (d + 1) 0) = ((bs.take i).map b2n ++ List.replicate (d + 1) 0).map fu from rfl, put_map fu _ (by omega)] at s3
   have hset : ((bs.take i).map b2n ++ List.replicate (d + 1) 0).set i 1 = (bs.take (i + 1)).map b2n ++ List.replicate d 0 := by
    rw [htk, hb, List.set_append_right _ _ (by simp; omega)]
    have : i - ((bs.take i).map b2n).length = 0 := by simp; omega
    rw [this, List.replicate_succ]
    simp [b2n]
   rw [hset] at s3
   -- the marks of what is over stay
   have hcb : cb ((bs.take i).map b2n ++ List.replicate (d + 1) 0) = cb ((bs.take (i + 1)).map b2n ++ List.replicate d 0) := by
    rw [htk, hb, List.replicate_succ]
    unfold cb
    simp [fb, b2n]
   have h8 := h.h8
   rw [hcb] at h8
   have st' : St1 k xs bs H0 H2 vN (.slice aA bs.length cA) (.slice a7 bs.length c7) (.slice a8 bs.length c8) o7 o8 ((bs.take (i + 1)).map b2n ++ List.replicate d 0) :=
    ⟨by rw [s4.2 _ (List.getElem?_eq_some_iff.1 h.b).1 (fun hh => by cases hh; have := h.l7; omega)]; exact h.b, h.n.stayLow h.lo s4 (fun id hh => by cases hh; have := h.l7; omega), h.lo, s3, h8.stay s4 (fun id h1 h2 => by cases h1; cases h2; exact h.d6 rfl), h.l7, h.l8, h.d6⟩
   obtain ⟨z1, z2, z3, z4, H5, q1, q2, q3, q4⟩ := loop14i hG (prot := prot) (m := m) d (i + 1) H2 (by omega) st' (hA.stayLow hl s4 (fun id hh => by cases hh; have := h.l7; omega)) hl
   rw [hb] at n2
   exact ⟨z1, z2, z3, z4, H5, lp_next (f14_L0_0 (by omega) n1 n2 rfl s1 rfl s2 (fit64 (by omega) (by omega))) q1, q2, q3, q4⟩
  | false =>
   have heq : (bs.take i).map b2n ++ List.replicate (d + 1) 0 = (bs.take (i + 1)).map b2n ++ List.replicate d 0 := by
    rw [htk, hb, List.replicate_succ]
    simp [b2n]
   rw [heq] at h
   obtain ⟨z1, z2, z3, z4, H5, q1, q2, q3, q4⟩ := loop14i hG (prot := prot) (m := m) d (i + 1) H (by omega) h hA hl
   rw [hb] at n2
   exact ⟨z1, z2, z3, z4, H5, lp_next (f14_L0_1 (by omega) n1 n2 rfl (fit64 (by omega) (by omega))) q1, q2, q3, q4⟩

/-- What Count answers. -/
def countV (k : Int) (xs : List Int) (bs : List Bool) (n : Int) : Nat × Int :=
 if chkG k xs bs = 0 then
  (if n < 0 then (0, 1) else if n > 4096 then (0, 6) else if 18446744073709551616 ≤ (rowC k.toNat xs bs n.toNat).getD 0 0 then (0, 11) else ((rowC k.toNat xs bs n.toNat).getD 0 0, 0))
 else (0, chkG k xs bs)

theorem c14 {k n : Int} {xs : List Int} {bs : List Bool} {vN vA : Value} (prot : Nat) (H : AHeap) (hA : IsA H xs bs vN vA) :
  callInf cfg 14 [av k vN vA, .int .i64 n] prot H = some (.tuple #[.int .u64 (countV k xs bs n).1, .int .i64 (countV k xs bs n).2], H) := by
 have lN := hA.n.low
 have lA := hA.a.low
 have hck := c36 (k := k) H.length (H ++ [bx k vN vA]) (hA.stay (Stay.app none H _))
 obtain ⟨aN, cN, rfl⟩ := hA.n.len
 obtain ⟨aA, cA, rfl⟩ := hA.a.len
 have hg : (H ++ [bx k (.slice aN xs.length cN) (.slice aA bs.length cA)])[H.length]? = some (bx k (.slice aN xs.length cN) (.slice aA bs.length cA)) := append_get.1
 obtain ⟨g0, g1, g2, g3⟩ := fld3 hg
 unfold countV
 by_cases h0 : chkG k xs bs = 0
 ·rw [if_pos h0]
  rw [h0] at hck
  by_cases hn0 : n < 0
  ·rw [if_pos hn0]; exact f14_F_1 all3 g3 hck rfl hn0
  ·rw [if_neg hn0]
   by_cases hn1 : n > 4096
   ·rw [if_pos hn1]; exact f14_F_2 all3 g3 hck rfl hn0 hn1
   ·rw [if_neg hn1]
    obtain ⟨k, rfl, hG⟩ := good_of h0
    obtain ⟨n, rfl⟩ : ∃ n' : Nat, n = n' := ⟨n.toNat, by omega⟩
    rw [Int.toNat_natCast, Int.toNat_natCast]
    have hb1 := hG.n1
    have hb5 := hG.n5
    obtain ⟨HX, hHX⟩ : ∃ HX, HX = H ++ [bx k (.slice aN xs.length cN) (.slice aA bs.length cA)] := ⟨_, rfl⟩
    have lX : HX.length = H.length + 1 := by rw [hHX]; simp
    obtain ⟨HA, hHA⟩ : ∃ HA, HA = HX ++ [AObj.cells (repCells [.int .u64 0] bs.length) 33 (repCells [.int .u64 0] bs.length).length .row] := ⟨_, rfl⟩
    obtain ⟨HB, hHB⟩ : ∃ HB, HB = HA ++ [AObj.cells (repCells [.bool false] bs.length) 4 (repCells [.bool false] bs.length).length .row] := ⟨_, rfl⟩
    have lHA : HA.length = H.length + 2 := by rw [hHA]; simp; omega
    have sX : Stay none H HX := by rw [hHX]; exact Stay.app none H _
    have sA : Stay none HX HA := by rw [hHA]; exact Stay.app none HX _
    have sB : Stay none HA HB := by rw [hHB]; exact Stay.app none HA _
    have m1 : Own HA 33 1 (.slice (some ⟨HX.length, 0, some (bs.length * 1)⟩) bs.length bs.length) (some HX.length) bs.length (cu (List.replicate bs.length 0)) := by
     rw [hHA]; exact own_make fu hb1 HX (.int .u64 0) rfl
    have m2 : Own HB 4 1 (.slice (some ⟨HA.length, 0, some (bs.length * 1)⟩) bs.length bs.length) (some HA.length) bs.length (cb (List.replicate bs.length 0)) := by
     rw [hHB]; exact own_make fb hb1 HA (.bool false) rfl
    have hgB : HB[H.length]? = some (bx k (.slice aN xs.length cN) (.slice aA bs.length cA)) := by
     rw [sB.2 _ (by omega) (by simp), sA.2 _ (by omega) (by simp), hHX]
     exact hg
    have hAB := hA.stay ((sX.trans sA).trans sB)
    have st : St1 k xs bs H HB (.slice aN xs.length cN) (.slice aA bs.length cA) (.slice (some ⟨HX.length, 0, some (bs.length * 1)⟩) bs.length bs.length) (.slice (some ⟨HA.length, 0, some (bs.length * 1)⟩) bs.length bs.length) HX.length HA.length ((bs.take 0).map b2n ++ List.replicate bs.length 0) :=
     ⟨hgB, hAB.n, lN, m1.stay sB (fun _ _ h => by cases h), m2, by omega, by omega, by omega⟩
    obtain ⟨a7, c7, a8, c8, H1, q1, q2, q3, q4⟩ := loop14i hG (prot := prot) (m := n) bs.length 0 HB (by omega) st hAB.a lA
    rw [q2, q3] at q4
    obtain ⟨z1, z2, z3, z4, H2, r1, r2⟩ := loop14r hG (prot := prot) (m := n) (by omega) n 0 H1 (by omega) q4
    have hl := rowC_len k xs bs n
    have hcu : (cu (rowC k xs bs n))[0]? = some (fu ((rowC k xs bs n).getD 0 0)) := by simp [cu, List.getD_eq_getElem?_getD, List.getElem?_eq_getElem (show 0 < (rowC k xs bs n).length by omega)]
    have hcb : (cb (rowC k xs bs n))[0]? = some (fb ((rowC k xs bs n).getD 0 0)) := by simp [cb, List.getD_eq_getElem?_getD, List.getElem?_eq_getElem (show 0 < (rowC k xs bs n).length by omega)]
    obtain ⟨_, _, y1, y2⟩ := own_at T23 r2.h8 hcb
    obtain ⟨_, _, w1, w2⟩ := own_at T66 r2.h7 hcu
    obtain ⟨_, _, g2B, _⟩ := fld3 hgB
    subst hHB; subst hHA; subst hHX
    by_cases hov : 18446744073709551616 ≤ (rowC k xs bs n).getD 0 0
    ·rw [if_pos hov]
     have : fb ((rowC k xs bs n).getD 0 0) = .bool true := by unfold fb; rw [decide_eq_true hov]
     rw [this] at y2
     exact f14_F_3 all3 g3 hck rfl hn0 hn1 g2 (by omega) rfl (by omega) (by omega) (by omega) rfl (by omega) (by omega) g2B q1 r1 y1 y2 rfl
    ·rw [if_neg hov]
     have : fb ((rowC k xs bs n).getD 0 0) = .bool false := by unfold fb; rw [decide_eq_false hov]
     rw [this] at y2
     have : fu ((rowC k xs bs n).getD 0 0) = .int .u64 ((rowC k xs bs n).getD 0 0 : Nat) := by unfold fu; rw [Nat.mod_eq_of_lt (by omega)]
     rw [this] at w2
     exact f14_F_4 all3 g3 hck rfl hn0 hn1 g2 (by omega) rfl (by omega) (by omega) (by omega) rfl (by omega) (by omega) g2B q1 r1 y1 y2 rfl w1 w2
 ·rw [if_neg h0]
  exact f14_F_0 all3 g3 hck (by simpa using h0)
end Go.Proofs.Ythjkodbinkiifaa.Am23
set_option linter.unusedVariables false
open Go Go.Proofs.Ythjkodbinkiifaa.Am
namespace Go.Proofs.Ythjkodbinkiifaa.Am23
section
variable {x0a x1 x11 x39 z11 x40 x49 x51 x56 : Int}
variable {x0ba x0ca x15a x19a z8a z9a x8a x9a x10a z10a x44a x86a : Option Addr}
variable {x0bn x0bc x0cn x0cc prot x15n x15c x19n x19c x30p x30o x30l x31p x31o x31l z8n z8c z9n z9c x3p x3o x3l x8n x8c x9n x9c x10n x10c z3p z3o z3l z10n z10c x44n x44c x47p x47o x47l x55p x55o x55l x59p x59o x59l x64p x64o x64l x69p x69o x69l x77p x77o x77l x82p x82o x82l x86n x86c : Nat}
variable {x2 x60 : Bool}
variable {H H1 H2 H3 H0 H4 : AHeap}
variable {x71 x83 : ByteArray}
theorem f65_F_0 (rv : Value) (rH : AHeap) (h1 : [vI x0a, vS x0ba x0bn x0bc, vS x0ca x0cn x0cc].all isCell = true) (h2 : getCells (H ++ [vo [vI x0a, vS x0ba x0bn x0bc, vS x0ca x0cn x0cc] 25]) H.length 3 (0 + 2) 1 = some [vS x15a x15n x15c]) (h3 : 0 ≤ (↑x15n : Int)) (h4 : (↑x15n : Int) = (↑x15n : Int)) (h5 : (↑x15n : Int) ≤ 9223372036854775807) (h6 : (↑16 : Int) * (↑x15n : Int) ≤ 2 ^ 48) (h7 : getCells (H ++ [vo [vI x0a, vS x0ba x0bn x0bc, vS x0ca x0cn x0cc] 25] ++ [AObj.cells (repCells [vE] (↑x15n : Int).toNat) 9 (repCells [vE] (↑x15n : Int).toNat).length OMode.row]) H.length 3 (0 + 2) 1 = some [vS x19a x19n x19c]) (h8 : 0 ≤ (↑x19n : Int)) (h9 : (↑x19n : Int) = (↑x19n : Int)) (h10 : (↑x19n : Int) ≤ 9223372036854775807) (h11 : (↑1 : Int) * (↑x19n : Int) ≤ 2 ^ 48) (h12 : aX 23 (vS (some ⟨List.length (H ++ [vo [vI x0a, vS x0ba x0bn x0bc, vS x0ca x0cn x0cc] 25] ++ [AObj.cells (repCells [vE] (↑x15n : Int).toNat) 9 (repCells [vE] (↑x15n : Int).toNat).length OMode.row]), 0, some ((↑x19n : Int).toNat * 1)⟩) (↑x19n : Int).toNat (↑x19n : Int).toNat) (vI x1) = some (vP x30p x30o x30l)) (h13 : 1 = 1) (h14 : setCells (H ++ [vo [vI x0a, vS x0ba x0bn x0bc, vS x0ca x0cn x0cc] 25] ++ [AObj.cells (repCells [vE] (↑x15n : Int).toNat) 9 (repCells [vE] (↑x15n : Int).toNat).length OMode.row] ++ [AObj.cells (repCells [Value.bool false] (↑x19n : Int).toNat) 4 (repCells [Value.bool false] (↑x19n : Int).toNat).length OMode.row] ++ [wo [vI x1, vE] 116]) H.length x30p x30l x30o [Value.bool x2] = some H1) (h15 : aX 43 (vS (some ⟨List.length (H ++ [vo [vI x0a, vS x0ba x0bn x0bc, vS x0ca x0cn x0cc] 25]), 0, some ((↑x15n : Int).toNat * 1)⟩) (↑x15n : Int).toNat (↑x15n : Int).toNat) (vI x1) = some (vP x31p x31o x31l)) (h16 : 1 = 1) (h17 : setCells H1 H.length x31p x31l x31o [vE] = some H2) (h18 : lI a65 0 prot H ([vP H.length 0 3, vS (some ⟨List.length (H ++ [vo [vI x0a, vS x0ba x0bn x0bc, vS x0ca x0cn x0cc] 25]), 0, some ((↑x15n : Int).toNat * 1)⟩) (↑x15n : Int).toNat (↑x15n : Int).toNat, vS (some ⟨List.length (H ++ [vo [vI x0a, vS x0ba x0bn x0bc, vS x0ca x0cn x0cc] 25] ++ [AObj.cells (repCells [vE] (↑x15n : Int).toNat) 9 (repCells [vE] (↑x15n : Int).toNat).length OMode.row]), 0, some ((↑x19n : Int).toNat * 1)⟩) (↑x19n : Int).toNat (↑x19n : Int).toNat, vS (some ⟨List.length (H ++ [vo [vI x0a, vS x0ba x0bn x0bc, vS x0ca x0cn x0cc] 25] ++ [AObj.cells (repCells [vE] (↑x15n : Int).toNat) 9 (repCells [vE] (↑x15n : Int).toNat).length OMode.row] ++ [AObj.cells (repCells [Value.bool false] (↑x19n : Int).toNat) 4 (repCells [Value.bool false] (↑x19n : Int).toNat).length OMode.row]), 0, some (1 * 2)⟩) 1 1, vI 0], H2) = some (Ex.exit 0, [vS z8a z8n z8c, vS z9a z9n z9c], H3)) (h19 : pfin a65 H [vS z8a z8n z8c, vS z9a z9n z9c] H3 = (rv, rH)) : callInf cfg 65 [.agg #[.int .i64 x0a, .slice x0ba x0bn x0bc, .slice x0ca x0cn x0cc], .int .i64 x1, .bool x2] prot H = some (rv, rH) :=
 fn_of2 a65 [.e, .v (vS x15a x15n x15c), .e, .e, .v (vS x19a x19n x19c), .e, .e, .e, .e, .v (vP x30p x30o x30l), .h H1, .v (vP x31p x31o x31l), .h H2, .lo (.exit 0, [vS z8a z8n z8c, vS z9a z9n z9c], H3)] (ai h1 (ai h2 (ai h3 (ai h4 (ai h5 (ai h6 (ai h7 (ai h8 (ai h9 (ai h10 (ai h11 (ai h12 (ai h13 (ai h14 (ai h15 (ai h16 (ai h17 (ai h18 h19)))))))))))))))))) (by kernel_rfl) rfl
theorem f65_L0_0 (h1 : x11 < (↑x10n : Int)) (h2 : getCells H x3p x3l (x3o + 0) 1 = some [vI x39]) (h3 : lI a65 1 prot H0 ([vP x3p x3o x3l, vS x8a x8n x8c, vS x9a x9n x9c, vS x10a x10n x10c, vI x11, vI x39, vI 0], H) = some (Ex.exit 2, [vP z3p z3o z3l, vS z8a z8n z8c, vS z9a z9n z9c, vS z10a z10n z10c, vI z11], H2)) (h4 : Fit .i64 (z11 + 1)) : lpOf cfg a65 0 prot H0 ([.pointer (some ⟨x3p, x3o, some x3l⟩), .slice x8a x8n x8c, .slice x9a x9n x9c, .slice x10a x10n x10c, .int .i64 x11], H) = some (Sum.inl ([Value.pointer (some ⟨z3p, z3o, some z3l⟩), Value.slice z8a z8n z8c, Value.slice z9a z9n z9c, Value.slice z10a z10n z10c, Value.int .i64 (z11 + 1)], H2)) :=
 lp_of2 [.e, .e, .b true, .v (vI x39), .lo (.exit 2, [vP z3p z3o z3l, vS z8a z8n z8c, vS z9a z9n z9c, vS z10a z10n z10c, vI z11], H2), .e] (ai (decide_eq_true h1) (ai h2 (ai h3 (ai h4 (Eq.refl (Sum.inl ([vP z3p z3o z3l, vS z8a z8n z8c, vS z9a z9n z9c, vS z10a z10n z10c, vI (z11 + 1)], H2) : LS ⊕ LO)))))) (by kernel_rfl)
theorem f65_L0_1 (h1 : ¬(x11 < (↑x10n : Int))) : lpOf cfg a65 0 prot H0 ([.pointer (some ⟨x3p, x3o, some x3l⟩), .slice x8a x8n x8c, .slice x9a x9n x9c, .slice x10a x10n x10c, .int .i64 x11], H) = some (Sum.inr (Ex.exit 0, [Value.slice x8a x8n x8c, Value.slice x9a x9n x9c], H)) :=
 lp_of2 [.e, .e, .b false] (ai (decide_eq_false h1) (Eq.refl (Sum.inr (Ex.exit 0, [vS x8a x8n x8c, vS x9a x9n x9c], H) : LS ⊕ LO))) (by kernel_rfl)
theorem f65_L1_0 (h1 : x40 < x39) (h2 : getCells H x3p x3l (x3o + 1) 1 = some [vS x44a x44n x44c]) (h3 : aX 117 (vS x10a x10n x10c) (vI x11) = some (vP x47p x47o x47l)) (h4 : getCells H x47p x47l (x47o + 0) 1 = some [vI x49]) (h5 : getCells H x3p x3l (x3o + 0) 1 = some [vI x51]) (h6 : Fit .i64 (x49 * x51)) (h7 : Fit .i64 (x49 * x51 + x40)) (h8 : aX 22 (vS x44a x44n x44c) (vI (x49 * x51 + x40)) = some (vP x55p x55o x55l)) (h9 : getCells H x55p x55l x55o 1 = some [vI x56]) (h10 : aX 23 (vS x9a x9n x9c) (vI x56) = some (vP x59p x59o x59l)) (h11 : getCells H x59p x59l x59o 1 = some [Value.bool x60]) (h12 : (!x60) = false) (h13 : Fit .i64 (x40 + 1)) : lpOf cfg a65 1 prot H0 ([.pointer (some ⟨x3p, x3o, some x3l⟩), .slice x8a x8n x8c, .slice x9a x9n x9c, .slice x10a x10n x10c, .int .i64 x11, .int .i64 x39, .int .i64 x40], H) = some (Sum.inl ([Value.pointer (some ⟨x3p, x3o, some x3l⟩), Value.slice x8a x8n x8c, Value.slice x9a x9n x9c, Value.slice x10a x10n x10c, Value.int .i64 x11, Value.int .i64 x39, Value.int .i64 (x40 + 1)], H)) :=
 lp_of2 [.e, .b true, .v (vS x44a x44n x44c), .v (vP x47p x47o x47l), .v (vI x49), .v (vI x51), .e, .e, .v (vP x55p x55o x55l), .v (vI x56), .v (vP x59p x59o x59l), .v (.bool x60), .e, .b false, .e] (ai (decide_eq_true h1) (ai h2 (ai h3 (ai h4 (ai h5 (ai h6 (ai h7 (ai h8 (ai h9 (ai h10 (ai h11 (ai h12 (ai h13 (Eq.refl (Sum.inl ([vP x3p x3o x3l, vS x8a x8n x8c, vS x9a x9n x9c, vS x10a x10n x10c, vI x11, vI x39, vI (x40 + 1)], H) : LS ⊕ LO))))))))))))))) (by kernel_rfl)
theorem f65_L1_1 (h1 : x40 < x39) (h2 : getCells H x3p x3l (x3o + 1) 1 = some [vS x44a x44n x44c]) (h3 : aX 117 (vS x10a x10n x10c) (vI x11) = some (vP x47p x47o x47l)) (h4 : getCells H x47p x47l (x47o + 0) 1 = some [vI x49]) (h5 : getCells H x3p x3l (x3o + 0) 1 = some [vI x51]) (h6 : Fit .i64 (x49 * x51)) (h7 : Fit .i64 (x49 * x51 + x40)) (h8 : aX 22 (vS x44a x44n x44c) (vI (x49 * x51 + x40)) = some (vP x55p x55o x55l)) (h9 : getCells H x55p x55l x55o 1 = some [vI x56]) (h10 : aX 23 (vS x9a x9n x9c) (vI x56) = some (vP x59p x59o x59l)) (h11 : getCells H x59p x59l x59o 1 = some [Value.bool x60]) (h12 : (!x60) = true) (h13 : aX 23 (vS x9a x9n x9c) (vI x56) = some (vP x64p x64o x64l)) (h14 : 1 = 1) (h15 : setCells H H0.length x64p x64l x64o [Value.bool true] = some H2) (h16 : aX 117 (vS x10a x10n x10c) (vI x11) = some (vP x69p x69o x69l)) (h17 : getCells H2 x69p x69l (x69o + 1) 1 = some [Value.string x71]) (h18 : Fit .i64 (97 + x40)) (h19 : Fit .i32 (97 + x40)) (h20 : x71.size + (Utf8.encode (97 + x40)).size ≤ 9223372036854775807) (h21 : aX 43 (vS x8a x8n x8c) (vI x56) = some (vP x77p x77o x77l)) (h22 : 1 = 1) (h23 : setCells H2 H0.length x77p x77l x77o [Value.string (x71 ++ Utf8.encode (97 + x40))] = some H3) (h24 : aX 43 (vS x8a x8n x8c) (vI x56) = some (vP x82p x82o x82l)) (h25 : getCells H3 x82p x82l x82o 1 = some [Value.string x83]) (h26 : aappend cfg.P H0.length true 117 117 (vS x10a x10n x10c) (vS (some ⟨H3.length, 0, some (1 * 2)⟩) 1 1) (H3 ++ [wo [vI x56, Value.string x83] 116]) = some (vS x86a x86n x86c, H4)) (h27 : Fit .i64 (x40 + 1)) : lpOf cfg a65 1 prot H0 ([.pointer (some ⟨x3p, x3o, some x3l⟩), .slice x8a x8n x8c, .slice x9a x9n x9c, .slice x10a x10n x10c, .int .i64 x11, .int .i64 x39, .int .i64 x40], H) = some (Sum.inl ([Value.pointer (some ⟨x3p, x3o, some x3l⟩), Value.slice x8a x8n x8c, Value.slice x9a x9n x9c, Value.slice x86a x86n x86c, Value.int .i64 x11, Value.int .i64 x39, Value.int .i64 (x40 + 1)], H4)) :=
 lp_of2 [.e, .b true, .v (vS x44a x44n x44c), .v (vP x47p x47o x47l), .v (vI x49), .v (vI x51), .e, .e, .v (vP x55p x55o x55l), .v (vI x56), .v (vP x59p x59o x59l), .v (.bool x60), .e, .b true, .v (vP x64p x64o x64l), .h H2, .v (vP x69p x69o x69l), .v (.string x71), .e, .e, .e, .e, .v (vP x77p x77o x77l), .h H3, .v (vP x82p x82o x82l), .v (.string x83), .e, .e, .r (vS x86a x86n x86c) H4, .e] (ai (decide_eq_true h1) (ai h2 (ai h3 (ai h4 (ai h5 (ai h6 (ai h7 (ai h8 (ai h9 (ai h10 (ai h11 (ai h12 (ai h13 (ai h14 (ai h15 (ai h16 (ai h17 (ai h18 (ai h19 (ai h20 (ai h21 (ai h22 (ai h23 (ai h24 (ai h25 (ai h26 (ai h27 (Eq.refl (Sum.inl ([vP x3p x3o x3l, vS x8a x8n x8c, vS x9a x9n x9c, vS x86a x86n x86c, vI x11, vI x39, vI (x40 + 1)], H4) : LS ⊕ LO))))))))))))))))))))))))))))) (by kernel_rfl)
theorem f65_L1_2 (h1 : ¬(x40 < x39)) : lpOf cfg a65 1 prot H0 ([.pointer (some ⟨x3p, x3o, some x3l⟩), .slice x8a x8n x8c, .slice x9a x9n x9c, .slice x10a x10n x10c, .int .i64 x11, .int .i64 x39, .int .i64 x40], H) = some (Sum.inr (Ex.exit 2, [Value.pointer (some ⟨x3p, x3o, some x3l⟩), Value.slice x8a x8n x8c, Value.slice x9a x9n x9c, Value.slice x10a x10n x10c, Value.int .i64 x11], H)) :=
 lp_of2 [.e, .b false] (ai (decide_eq_false h1) (Eq.refl (Sum.inr (Ex.exit 2, [vP x3p x3o x3l, vS x8a x8n x8c, vS x9a x9n x9c, vS x10a x10n x10c, vI x11], H) : LS ⊕ LO))) (by kernel_rfl)
end
end Go.Proofs.Ythjkodbinkiifaa.Am23
namespace Go.Proofs.Ythjkodbinkiifaa.Am23
open Go Go.Proofs.Ythjkodbinkiifaa.Am

theorem T43 : ElemT cfg.P 43 9 1 16 := ⟨by kernel_rfl, by kernel_rfl, by kernel_rfl, ⟨.string ByteArray.empty, by kernel_rfl, rfl⟩, by kernel_rfl, by omega, by omega⟩
theorem T117 : ElemT cfg.P 117 116 2 24 := ⟨by kernel_rfl, by kernel_rfl, by kernel_rfl, ⟨.agg #[.int .i64 0, .string ByteArray.empty], by kernel_rfl, rfl⟩, by kernel_rfl, by omega, by omega⟩

structure L65 (k : Nat) (xs : List Int) (n : Nat) (H0 H : AHeap) (vN vA x8 x9 x10 : Value) (o8 o9 o10 : Nat) (b : Bf) : Prop where
 hb : H[H0.length]? = some (bx k vN vA)
 r : Rd H 3 1 vN xs.length (il xs)
 lo : Low H0.length vN
 h8 : Own H 9 1 x8 (some o8) n (sl b.ws)
 h9 : Own H 4 1 x9 (some o9) n (bll b.met)
 h10 : Own H 116 2 x10 (some o10) b.q.length (qc b.q)
 l8 : H0.length < o8
 l9 : H0.length < o9
 l10 : H0.length < o10
 d1 : o8 ≠ o9
 d2 : o8 ≠ o10
 d3 : o9 ≠ o10

theorem put_sl (l : List (List Nat)) {i : Nat} (hi : i < l.length) (c : List Nat) : putList (sl l) (i * 1 + 0) [.string (lw c)] = sl (l.set i c) := put_map (fun w => Value.string (lw w)) l hi c
theorem put_bl (l : List Bool) {i : Nat} (hi : i < l.length) (c : Bool) : putList (bll l) (i * 1 + 0) [.bool c] = bll (l.set i c) := put_map Value.bool l hi c

theorem q_at {H : AHeap} {x : Value} {o : Nat} {q : List (Nat × List Nat)} (h : Own H 116 2 x (some o) q.length (qc q)) {i s : Nat} {w : List Nat} (hq : q[i]? = some (s, w)) :
  aindexAddr cfg.P 117 x (.int .i64 i) = some (.pointer (some ⟨o, i * 2, some (qc q).length⟩)) ∧ getCells H o (qc q).length (i * 2 + 0) 1 = some [.int .i64 s] ∧ getCells H o (qc q).length (i * 2 + 1) 1 = some [.string (lw w)] := by
 obtain ⟨hi, hqi⟩ := List.getElem?_eq_some_iff.1 hq
 obtain ⟨_, e, h1, h2⟩ := own_atS T117 h hi
 cases e
 have hd := qc_drop i q
 rw [List.drop_eq_getElem_cons hi, hqi] at hd
 refine ⟨h1, ?_, ?_⟩
 ·rw [h2 0 1 (by omega), Nat.add_zero, hd]; rfl
 ·rw [h2 1 1 (by omega), ← List.drop_drop, hd]; rfl

theorem loop65i {k : Nat} {xs : List Int} {bs : List Bool} (hG : Good k xs bs) {H0 : AHeap} {prot : Nat} {vN vA x8 x9 : Value} {o8 o9 o10 i s : Nat} {w : List Nat} : ∀ (d c : Nat) (b : Bf) (x10 : Value) (H : AHeap), c + d = k → BOk bs.length b → b.q[i]? = some (s, w) →
  L65 k xs bs.length H0 H vN vA x8 x9 x10 o8 o9 o10 b →
  ∃ a10 c10 H', lpInf (lpOf cfg a65 1 prot H0) ([.pointer (some ⟨H0.length, 0, some 3⟩), x8, x9, x10, .int .i64 i, .int .i64 k, .int .i64 c], H) =
   some (.exit 2, [.pointer (some ⟨H0.length, 0, some 3⟩), x8, x9, .slice a10 (brow k xs s w d c b).q.length c10, .int .i64 i], H') ∧ L65 k xs bs.length H0 H' vN vA x8 x9 (.slice a10 (brow k xs s w d c b).q.length c10) o8 o9 o10 (brow k xs s w d c b)
 | 0, c, b, x10, H, hc, hb, hq, h => by
  obtain ⟨a8, c8, rfl⟩ := h.h8.len
  obtain ⟨a9, c9, rfl⟩ := h.h9.len
  obtain ⟨a10, c10, rfl⟩ := h.h10.len
  exact ⟨a10, c10, H, lp_last (f65_L1_2 (x40 := (c : Int)) (x39 := (k : Int)) (by omega)), h⟩
 | d + 1, c, b, x10, H, hc, hb, hq, h => by
  obtain ⟨a8, c8, rfl⟩ := h.h8.len
  obtain ⟨a9, c9, rfl⟩ := h.h9.len
  obtain ⟨a10, c10, rfl⟩ := h.h10.len
  obtain ⟨aN, cN, rfl⟩ := h.r.len
  have hk8 := hG.k8
  have hn5 := hG.n5
  have hck : c < k := by omega
  obtain ⟨hs, hwl⟩ := hb.q _ _ _ hq
  obtain ⟨hi, ht, hx⟩ := tgt_lt hG hs hck
  have hqi := (List.getElem?_eq_some_iff.1 hq).1
  have hqn := hb.u
  have hxl := hG.nx
  have hb8 : bs.length * k ≤ 512 * 8 := Nat.mul_le_mul hn5 hk8
  obtain ⟨g0, g1, _, _⟩ := fld3 h.hb
  obtain ⟨q1, q2, q3⟩ := q_at h.h10 hq
  have hxv : (il xs)[s * k + c]? = some (.int .i64 ((tgt k xs s c : Nat) : Int)) := by unfold il; rw [List.getElem?_map, hx]; rfl
  obtain ⟨idN, LN, n1, n2⟩ := rd_at T22 h.r hxv
  obtain ⟨t, htd⟩ : ∃ t, tgt k xs s c = t := ⟨_, rfl⟩
  rw [htd] at ht n2
  have hmv : (bll b.met)[t]? = some (.bool (b.met.getD t false)) := by
   unfold bll; rw [List.getElem?_map, List.getElem?_eq_getElem (by rw [hb.lm]; exact ht), List.getD_eq_getElem?_getD, List.getElem?_eq_getElem (by rw [hb.lm]; exact ht)]; rfl
  obtain ⟨_, e, m1, m2⟩ := own_at T23 h.h9 hmv
  cases e
  have eix : ((s : Int) * (k : Int) + (c : Int)) = ((s * k + c : Nat) : Int) := by push_cast; rfl
  have hsk : s * k ≤ s * k + c := by omega
  have f1 : Fit .i64 ((s : Int) * (k : Int)) := by rw [show ((s : Int) * (k : Int)) = ((s * k : Nat) : Int) by push_cast; rfl]; exact fit64 (by omega) (by omega)
  have f2 : Fit .i64 ((s : Int) * (k : Int) + (c : Int)) := by rw [eix]; exact fit64 (by omega) (by omega)
  have fc : Fit .i64 ((c : Int) + 1) := fit64 (by omega) (by omega)
  rw [← eix] at n1
  by_cases hm : b.met.getD t false = true
  ·have hst : bstep k xs s w c b = b := by unfold bstep; rw [htd, if_pos hm]
   obtain ⟨a', c', H', u1, u2⟩ := loop65i hG (prot := prot) d (c + 1) b _ H (by omega) hb hq h
   simp only [brow, hst]
   rw [hm] at m2
   exact ⟨a', c', H', lp_next (f65_L1_0 (by omega) g1 q1 q2 g0 f1 f2 n1 n2 m1 m2 rfl fc) u1, u2⟩
  ·have hm : b.met.getD t false = false := by simpa using hm
   have hst : bstep k xs s w c b = ⟨b.met.set t true, b.ws.set t (w ++ [c]), b.q ++ [(t, w ++ [c])]⟩ := by unfold bstep; rw [htd, if_neg (by rw [hm]; simp)]
   have hb' := hb.step hG hq hck
   have hq' := bstep_q (k := k) (xs := xs) (s := s) (c := c) (w := w) hq
   rw [hst] at hb' hq'
   rw [hm] at m2
   obtain ⟨_, H2, e, s1, s2, s3, s4, s5⟩ := own_setS T23 h.h9 (i := t) (j := 0) ht (vs := [.bool true]) (by simp) rfl (prot := H0.length) (fun id hh => by cases hh; have := h.l9; omega)
   cases e
   rw [put_bl _ (by rw [hb.lm]; exact ht)] at s3
   have w10 := h.h10.stay s4 (fun id h1 h2 => by cases h1; cases h2; exact h.d3 rfl)
   have w8 := h.h8.stay s4 (fun id h1 h2 => by cases h1; cases h2; exact h.d1 rfl)
   obtain ⟨_, _, q3'⟩ := q_at w10 hq
   obtain ⟨_, H3, e, t1, t2, t3, t4, t5⟩ := own_setS T43 w8 (i := t) (j := 0) ht (vs := [.string (lw (w ++ [c]))]) (by simp) rfl (prot := H0.length) (fun id hh => by cases hh; have := h.l8; omega)
   cases e
   rw [put_sl _ (by rw [hb.lw]; exact ht)] at t3
   have v9 := s3.stay t4 (fun id h1 h2 => by cases h1; cases h2; exact h.d1 rfl)
   have v10 := w10.stay t4 (fun id h1 h2 => by cases h1; cases h2; exact h.d2 rfl)
   have hwv : (sl (b.ws.set t (w ++ [c])))[t]? = some (.string (lw (w ++ [c]))) := by
    unfold sl; rw [List.getElem?_map, List.getElem?_set_self (by rw [hb.lw]; exact ht)]; rfl
   obtain ⟨_, e, y1, y2⟩ := own_at T43 t3 hwv
   cases e
   have lH3 : H3.length = H.length := by omega
   have lH0 := (List.getElem?_eq_some_iff.1 h.hb).1
   obtain ⟨a', c', o', H4, z1, z2, z3, z4, z5, z6⟩ := own_app T117 v10 (ecs := [.int .i64 (t : Int), .string (lw (w ++ [c]))]) rfl rfl (prot := H0.length) (room := true) (fun id hh => by cases hh; have := h.l10; omega) (by omega) (by omega) (L := 1 * 2) rfl (el := [Value.int .i64 (t : Int), .string (lw (w ++ [c]))].length) rfl
   have : o' = o10 := z6 _ rfl
   subst this
   have hqc : qc b.q ++ [.int .i64 (t : Int), .string (lw (w ++ [c]))] = qc (b.q ++ [(t, w ++ [c])]) := by simp [qc]
   rw [hqc] at z2
   have hbx : H4[H0.length]? = some (bx k (.slice aN xs.length cN) vA) := by
    rw [z3.2 _ (by omega) (fun hh => by cases hh; have := h.l10; omega), t4.2 _ (by omega) (fun hh => by cases hh; have := h.l8; omega), s4.2 _ lH0 (fun hh => by cases hh; have := h.l9; omega)]
    exact h.hb
   have hL : L65 k xs bs.length H0 H4 (.slice aN xs.length cN) vA (.slice a8 bs.length c8) (.slice a9 bs.length c9) (.slice a' (b.q.length + 1) c') o8 o9 o' ⟨b.met.set t true, b.ws.set t (w ++ [c]), b.q ++ [(t, w ++ [c])]⟩ :=
    ⟨hbx, ((h.r.stayLow h.lo s4 (fun id hh => by cases hh; have := h.l9; omega)).stayLow h.lo t4 (fun id hh => by cases hh; have := h.l8; omega)).stayLow h.lo z3 (fun id hh => by cases hh; have := h.l10; omega), h.lo,
     t3.stay z3 (fun id h1 h2 => by cases h1; cases h2; exact h.d2 rfl), v9.stay z3 (fun id h1 h2 => by cases h1; cases h2; exact h.d3 rfl), by simpa using z2, h.l8, h.l9, h.l10, h.d1, h.d2, h.d3⟩
   obtain ⟨a5, c5, H', u1, u2⟩ := loop65i hG (prot := prot) d (c + 1) _ _ H4 (by omega) hb' hq' hL
   simp only [brow, hst]
   have f97 : Fit .i64 (97 + (c : Int)) := fit64 (by omega) (by omega)
   have f97' : Fit .i32 (97 + (c : Int)) := fit32 (by omega) (by omega)
   have henc : Utf8.encode (97 + (c : Int)) = lw [c] := lw_enc (by omega)
   have hsz : (lw w).size + (Utf8.encode (97 + (c : Int))).size ≤ 9223372036854775807 := by rw [henc, lw_size, lw_size]; simp only [List.length_singleton]; omega
   have happ : lw w ++ Utf8.encode (97 + (c : Int)) = lw (w ++ [c]) := by rw [henc, lw_append]
   rw [← happ] at t2 y2 z1
   refine ⟨a5, c5, H', lp_next (f65_L1_1 (by omega) g1 q1 q2 g0 f1 f2 n1 n2 m1 m2 rfl s1 rfl s2 q1 q3' f97 f97' hsz t1 rfl t2 y1 y2 z1 fc) u1, u2⟩

theorem loop65o {k : Nat} {xs : List Int} {bs : List Bool} (hG : Good k xs bs) {H0 : AHeap} {prot : Nat} {vN vA x8 x9 : Value} {o8 o9 o10 : Nat} : ∀ (d i : Nat) (b : Bf) (x10 : Value) (H : AHeap), i + d = bs.length + 2 → BOk bs.length b →
  L65 k xs bs.length H0 H vN vA x8 x9 x10 o8 o9 o10 b →
  ∃ H', lpInf (lpOf cfg a65 0 prot H0) ([.pointer (some ⟨H0.length, 0, some 3⟩), x8, x9, x10, .int .i64 i], H) = some (.exit 0, [x8, x9], H') ∧ Own H' 9 1 x8 (some o8) bs.length (sl (brun k xs d i b).ws) ∧ Own H' 4 1 x9 (some o9) bs.length (bll (brun k xs d i b).met)
 | 0, i, b, x10, H, hc, hb, h => by
  obtain ⟨a8, c8, rfl⟩ := h.h8.len
  obtain ⟨a9, c9, rfl⟩ := h.h9.len
  obtain ⟨a10, c10, rfl⟩ := h.h10.len
  have := hb.u
  exact ⟨H, lp_last (f65_L0_1 (by omega)), h.h8, h.h9⟩
 | d + 1, i, b, x10, H, hc, hb, h => by
  obtain ⟨a8, c8, rfl⟩ := h.h8.len
  obtain ⟨a9, c9, rfl⟩ := h.h9.len
  obtain ⟨a10, c10, rfl⟩ := h.h10.len
  have hn5 := hG.n5
  by_cases hi : i < b.q.length
  ·obtain ⟨g0, _, _, _⟩ := fld3 h.hb
   obtain ⟨s, w, hq⟩ : ∃ s w, b.q[i]? = some (s, w) := ⟨_, _, List.getElem?_eq_getElem hi⟩
   obtain ⟨a', c', H', u1, u2⟩ := loop65i hG (prot := prot) k 0 b _ H (by omega) hb hq h
   obtain ⟨H2, v1, v2, v3⟩ := loop65o hG (prot := prot) d (i + 1) _ _ H' (by omega) (hb.row hG k 0 b (by omega) hq) u2
   have hr : brun k xs (d + 1) i b = brun k xs d (i + 1) (brow k xs s w k 0 b) := by rw [brun, hq]
   rw [hr]
   exact ⟨H2, lp_next (f65_L0_0 (by omega) g0 u1 (fit64 (by omega) (by omega))) v1, v2, v3⟩
  ·have hr : brun k xs (d + 1) i b = b := by rw [brun, List.getElem?_eq_none (by omega)]
   rw [hr]
   exact ⟨H, lp_last (f65_L0_1 (by omega)), h.h8, h.h9⟩

theorem c65 {k a : Nat} {xs : List Int} {bs : List Bool} {vN vA : Value} (hG : Good k xs bs) (ha : a < bs.length) (e : Bool) (prot : Nat) (H : AHeap) (hA : IsA H xs bs vN vA) :
  ∃ x y p q c d H', callInf cfg 65 [av k vN vA, .int .i64 a, .bool e] prot H = some (.tuple #[x, y], H') ∧ x = .slice p bs.length c ∧ y = .slice q bs.length d ∧ Own H' 9 1 x (some H.length) bs.length (sl (bfs k xs bs.length a e).ws) ∧
   Own H' 4 1 y (some (H.length + 1)) bs.length (bll (bfs k xs bs.length a e).met) ∧ Stay none H H' ∧ H'.length = H.length + 2 := by
 have lN := hA.n.low
 have lA := hA.a.low
 obtain ⟨aN, cN, rfl⟩ := hA.n.len
 obtain ⟨aA, cA, rfl⟩ := hA.a.len
 have hb1 := hG.n1
 have hb5 := hG.n5
 obtain ⟨HX, hHX⟩ : ∃ HX, HX = H ++ [bx k (.slice aN xs.length cN) (.slice aA bs.length cA)] := ⟨_, rfl⟩
 have lX : HX.length = H.length + 1 := by rw [hHX]; simp
 obtain ⟨HA, hHA⟩ : ∃ HA, HA = HX ++ [AObj.cells (repCells [.string ByteArray.empty] bs.length) 9 (repCells [.string ByteArray.empty] bs.length).length .row] := ⟨_, rfl⟩
 obtain ⟨HB, hHB⟩ : ∃ HB, HB = HA ++ [AObj.cells (repCells [.bool false] bs.length) 4 (repCells [.bool false] bs.length).length .row] := ⟨_, rfl⟩
 obtain ⟨HC, hHC⟩ : ∃ HC, HC = HB ++ [AObj.cells [.int .i64 (a : Int), .string ByteArray.empty] 116 [Value.int .i64 (a : Int), .string ByteArray.empty].length .row] := ⟨_, rfl⟩
 have lHA : HA.length = H.length + 2 := by rw [hHA]; simp; omega
 have lHB : HB.length = H.length + 3 := by rw [hHB]; simp; omega
 have lHC : HC.length = H.length + 4 := by rw [hHC]; simp; omega
 have sX : Stay none H HX := by rw [hHX]; exact Stay.app none H _
 have sA : Stay none HX HA := by rw [hHA]; exact Stay.app none HX _
 have sB : Stay none HA HB := by rw [hHB]; exact Stay.app none HA _
 have sC : Stay none HB HC := by rw [hHC]; exact Stay.app none HB _
 have m1 : Own HA 9 1 (.slice (some ⟨HX.length, 0, some (bs.length * 1)⟩) bs.length bs.length) (some HX.length) bs.length (sl (List.replicate bs.length [])) := by
  rw [hHA]
  have := own_make (e := 9) (fun _ => Value.string ByteArray.empty) hb1 HX (.string ByteArray.empty) rfl
  have h2 : sl (List.replicate bs.length []) = (List.replicate bs.length 0).map (fun _ => Value.string ByteArray.empty) := by
   unfold sl
   rw [List.map_replicate, List.map_replicate]
   rfl
  rw [h2]
  exact this
 have m2 : Own HB 4 1 (.slice (some ⟨HA.length, 0, some (bs.length * 1)⟩) bs.length bs.length) (some HA.length) bs.length (bll (List.replicate bs.length false)) := by
  rw [hHB]
  have := own_make (e := 4) (fun _ => Value.bool false) hb1 HA (.bool false) rfl
  have h2 : bll (List.replicate bs.length false) = (List.replicate bs.length 0).map (fun _ => Value.bool false) := by
   unfold bll
   rw [List.map_replicate, List.map_replicate]
  rw [h2]
  exact this
 have m3 : Own HC 116 2 (.slice (some ⟨HB.length, 0, some (1 * 2)⟩) 1 1) (some HB.length) 1 (qc [(a, [])]) := by
  rw [hHC]
  exact own_new rfl (by omega) rfl rfl
 have hgC : HC[H.length]? = some (bx k (.slice aN xs.length cN) (.slice aA bs.length cA)) := by
  rw [sC.2 _ (by omega) (by simp), sB.2 _ (by omega) (by simp), sA.2 _ (by omega) (by simp), hHX]
  exact append_get.1
 have hgX : HX[H.length]? = some (bx k (.slice aN xs.length cN) (.slice aA bs.length cA)) := by rw [hHX]; exact append_get.1
 have hgA : HA[H.length]? = some (bx k (.slice aN xs.length cN) (.slice aA bs.length cA)) := by rw [sA.2 _ (by omega) (by simp)]; exact hgX
 obtain ⟨_, _, g2X, _⟩ := fld3 hgX
 obtain ⟨_, _, g2A, _⟩ := fld3 hgA
 have w1 := (m1.stay sB (fun _ _ h => by cases h)).stay sC (fun _ _ h => by cases h)
 have w2 := m2.stay sC (fun _ _ h => by cases h)
 obtain ⟨_, H1, e1, s1, s2, s3, s4, s5⟩ := own_setS T23 w2 (i := a) (j := 0) ha (vs := [.bool e]) (by simp) rfl (prot := H.length) (fun id hh => by have := Option.some.inj hh; omega)
 cases e1
 rw [put_bl _ (by simp; exact ha)] at s3
 have v1 := w1.stay s4 (fun id h1 h2 => by have := Option.some.inj h1; have := Option.some.inj h2; omega)
 have v3 := m3.stay s4 (fun id h1 h2 => by have := Option.some.inj h1; have := Option.some.inj h2; omega)
 obtain ⟨_, H2, e2, t1, t2, t3, t4, t5⟩ := own_setS T43 v1 (i := a) (j := 0) ha (vs := [.string ByteArray.empty]) (by simp) rfl (prot := H.length) (fun id hh => by have := Option.some.inj hh; omega)
 cases e2
 have hput : putList (sl (List.replicate bs.length [])) (a * 1 + 0) [.string ByteArray.empty] = sl (List.replicate bs.length []) := by
  rw [show (Value.string ByteArray.empty) = .string (lw []) from rfl, put_sl _ (by simp; exact ha)]
  exact congrArg sl List.set_replicate_self
 rw [hput] at t3
 have u2 := s3.stay t4 (fun id h1 h2 => by have := Option.some.inj h1; have := Option.some.inj h2; omega)
 have u3 := v3.stay t4 (fun id h1 h2 => by have := Option.some.inj h1; have := Option.some.inj h2; omega)
 have l1 := s5
 have hL : L65 k xs bs.length H H2 (.slice aN xs.length cN) (.slice aA bs.length cA) (.slice (some ⟨HX.length, 0, some (bs.length * 1)⟩) bs.length bs.length) (.slice (some ⟨HA.length, 0, some (bs.length * 1)⟩) bs.length bs.length) (.slice (some ⟨HB.length, 0, some (1 * 2)⟩) 1 1) HX.length HA.length HB.length (bini bs.length a e) := by
  refine ⟨?_, (((hA.n.stay (((sX.trans sA).trans sB).trans sC)).stayLow lN s4 (fun id hh => by have := Option.some.inj hh; omega)).stayLow lN t4 (fun id hh => by have := Option.some.inj hh; omega)), lN, t3, u2, u3, by omega, by omega, by omega, by omega, by omega, by omega⟩
  rw [t4.2 _ (by omega) (fun hh => by have := Option.some.inj hh; omega), s4.2 _ (by omega) (fun hh => by have := Option.some.inj hh; omega)]
  exact hgC
 obtain ⟨H3, q1, q2, q3⟩ := loop65o hG (prot := prot) (bs.length + 2) 0 _ _ H2 (by omega) (BOk.ini ha e) hL
 obtain ⟨x', y', H4, r1, r2, r3, r4, r5⟩ := gc_two (H := H) q2 q3 (by omega) (by omega) (by omega) (sl_cell _) (bll_cell _)
 obtain ⟨p1, p2, rfl⟩ := r2.len
 obtain ⟨p3, p4, rfl⟩ := r3.len
 refine ⟨_, _, p1, p3, p2, p4, H4, ?_, rfl, rfl, r2, r3, r4, r5⟩
 subst hHC; subst hHB; subst hHA; subst hHX
 exact f65_F_0 _ _ all3 g2X (by omega) rfl (by omega) (by omega) g2A (by omega) rfl (by omega) (by omega) s1 rfl s2 t1 rfl t2 q1 (by rw [pfin_eq]; exact r1)
end Go.Proofs.Ythjkodbinkiifaa.Am23
set_option linter.unusedVariables false
open Go Go.Proofs.Ythjkodbinkiifaa.Am
namespace Go.Proofs.Ythjkodbinkiifaa.Am23
section
variable {x0a x13 x14 x18 x27 x36 : Int}
variable {x0ba x0ca x8a x9a z3a x3a x12a : Option Addr}
variable {x0bn x0bc x0cn x0cc prot x8n x8c x9n x9c z3n z3c x1p x1o x1l x3n x3c x12n x12c z1p z1o z1l x17p x17o x17l x21p x21o x21l x29p x29o x29l x38p x38o x38l : Nat}
variable {H H1 H2 H0 : AHeap}
variable {x4 z4 x22 x30 : Bool}
theorem f71_F_0 (rv : Value) (rH : AHeap) (h1 : [vI x0a, vS x0ba x0bn x0bc, vS x0ca x0cn x0cc].all isCell = true) (h2 : getCells (H ++ [vo [vI x0a, vS x0ba x0bn x0bc, vS x0ca x0cn x0cc] 25]) H.length 3 (0 + 2) 1 = some [vS x8a x8n x8c]) (h3 : aappend cfg.P H.length true 23 23 (vS none 0 0) (vS x8a x8n x8c) (H ++ [vo [vI x0a, vS x0ba x0bn x0bc, vS x0ca x0cn x0cc] 25]) = some (vS x9a x9n x9c, H1)) (h4 : lI a71 0 prot H ([vP H.length 0 3, vS x9a x9n x9c, Value.bool true], H1) = some (Ex.exit 0, [vS z3a z3n z3c], H2)) (h5 : pfin a71 H [vS z3a z3n z3c] H2 = (rv, rH)) : callInf cfg 71 [.agg #[.int .i64 x0a, .slice x0ba x0bn x0bc, .slice x0ca x0cn x0cc]] prot H = some (rv, rH) :=
 fn_of2 a71 [.e, .v (vS x8a x8n x8c), .r (vS x9a x9n x9c) H1, .lo (.exit 0, [vS z3a z3n z3c], H2)] (ai h1 (ai h2 (ai h3 (ai h4 h5)))) (by kernel_rfl) rfl
theorem f71_L0_0 (h1 : x4 = true) (h2 : getCells H x1p x1l (x1o + 1) 1 = some [vS x12a x12n x12c]) (h3 : lI a71 1 prot H0 ([vP x1p x1o x1l, vS x3a x3n x3c, Value.bool false, vS x12a x12n x12c, vI (↑x12n : Int), vI 0], H) = some (Ex.exit 2, [vP z1p z1o z1l, vS z3a z3n z3c, Value.bool z4], H2)) : lpOf cfg a71 0 prot H0 ([.pointer (some ⟨x1p, x1o, some x1l⟩), .slice x3a x3n x3c, .bool x4], H) = some (Sum.inl ([Value.pointer (some ⟨z1p, z1o, some z1l⟩), Value.slice z3a z3n z3c, Value.bool z4], H2)) :=
 lp_of2 [.b true, .v (vS x12a x12n x12c), .e, .lo (.exit 2, [vP z1p z1o z1l, vS z3a z3n z3c, .bool z4], H2)] (ai h1 (ai h2 (ai h3 (Eq.refl (Sum.inl ([vP z1p z1o z1l, vS z3a z3n z3c, Value.bool z4], H2) : LS ⊕ LO))))) (by kernel_rfl)
theorem f71_L0_1 (h1 : x4 = false) : lpOf cfg a71 0 prot H0 ([.pointer (some ⟨x1p, x1o, some x1l⟩), .slice x3a x3n x3c, .bool x4], H) = some (Sum.inr (Ex.exit 0, [Value.slice x3a x3n x3c], H)) :=
 lp_of2 [.b false] (ai h1 (Eq.refl (Sum.inr (Ex.exit 0, [vS x3a x3n x3c], H) : LS ⊕ LO))) (by kernel_rfl)
theorem f71_L1_0 (h1 : x14 < x13) (h2 : aX 22 (vS x12a x12n x12c) (vI x14) = some (vP x17p x17o x17l)) (h3 : getCells H x17p x17l x17o 1 = some [vI x18]) (h4 : aX 23 (vS x3a x3n x3c) (vI x18) = some (vP x21p x21o x21l)) (h5 : getCells H x21p x21l x21o 1 = some [Value.bool x22]) (h6 : x22 = true) (h7 : getCells H x1p x1l (x1o + 0) 1 = some [vI x27]) (h8 : x27 ≠ 0) (h9 : Fit .i64 (x14.tdiv x27)) (h10 : aX 23 (vS x3a x3n x3c) (vI (x14.tdiv x27)) = some (vP x29p x29o x29l)) (h11 : getCells H x29p x29l x29o 1 = some [Value.bool x30]) (h12 : (!x30) = false) (h13 : Fit .i64 (x14 + 1)) : lpOf cfg a71 1 prot H0 ([.pointer (some ⟨x1p, x1o, some x1l⟩), .slice x3a x3n x3c, .bool x4, .slice x12a x12n x12c, .int .i64 x13, .int .i64 x14], H) = some (Sum.inl ([Value.pointer (some ⟨x1p, x1o, some x1l⟩), Value.slice x3a x3n x3c, Value.bool x4, Value.slice x12a x12n x12c, Value.int .i64 x13, Value.int .i64 (x14 + 1)], H)) :=
 lp_of2 [.e, .b true, .v (vP x17p x17o x17l), .v (vI x18), .v (vP x21p x21o x21l), .v (.bool x22), .b true, .b true, .b true, .b true, .v (vI x27), .b true, .e, .b true, .v (vP x29p x29o x29l), .b true, .v (.bool x30), .b true, .e, .b true, .b false, .e] (ai (decide_eq_true h1) (ai h2 (ai h3 (ai h4 (ai h5 (ai h6 (ai h6 (ai h6 (ai h6 (ai h7 (ai h6 (ai h8 (ai h9 (ai h6 (ai h10 (ai h6 (ai h11 (ai h6 (ai h6 (ai h12 (ai h13 (Eq.refl (Sum.inl ([vP x1p x1o x1l, vS x3a x3n x3c, Value.bool x4, vS x12a x12n x12c, vI x13, vI (x14 + 1)], H) : LS ⊕ LO))))))))))))))))))))))) (by kernel_rfl)
theorem f71_L1_1 (h1 : x14 < x13) (h2 : aX 22 (vS x12a x12n x12c) (vI x14) = some (vP x17p x17o x17l)) (h3 : getCells H x17p x17l x17o 1 = some [vI x18]) (h4 : aX 23 (vS x3a x3n x3c) (vI x18) = some (vP x21p x21o x21l)) (h5 : getCells H x21p x21l x21o 1 = some [Value.bool x22]) (h6 : x22 = true) (h7 : getCells H x1p x1l (x1o + 0) 1 = some [vI x27]) (h8 : x27 ≠ 0) (h9 : Fit .i64 (x14.tdiv x27)) (h10 : aX 23 (vS x3a x3n x3c) (vI (x14.tdiv x27)) = some (vP x29p x29o x29l)) (h11 : getCells H x29p x29l x29o 1 = some [Value.bool x30]) (h12 : (!x30) = true) (h13 : getCells H x1p x1l (x1o + 0) 1 = some [vI x36]) (h14 : x36 ≠ 0) (h15 : Fit .i64 (x14.tdiv x36)) (h16 : aX 23 (vS x3a x3n x3c) (vI (x14.tdiv x36)) = some (vP x38p x38o x38l)) (h17 : 1 = 1) (h18 : setCells H H0.length x38p x38l x38o [Value.bool true] = some H2) (h19 : Fit .i64 (x14 + 1)) : lpOf cfg a71 1 prot H0 ([.pointer (some ⟨x1p, x1o, some x1l⟩), .slice x3a x3n x3c, .bool x4, .slice x12a x12n x12c, .int .i64 x13, .int .i64 x14], H) = some (Sum.inl ([Value.pointer (some ⟨x1p, x1o, some x1l⟩), Value.slice x3a x3n x3c, Value.bool true, Value.slice x12a x12n x12c, Value.int .i64 x13, Value.int .i64 (x14 + 1)], H2)) :=
 lp_of2 [.e, .b true, .v (vP x17p x17o x17l), .v (vI x18), .v (vP x21p x21o x21l), .v (.bool x22), .b true, .b true, .b true, .b true, .v (vI x27), .b true, .e, .b true, .v (vP x29p x29o x29l), .b true, .v (.bool x30), .b true, .e, .b true, .b true, .v (vI x36), .e, .v (vP x38p x38o x38l), .h H2, .e] (ai (decide_eq_true h1) (ai h2 (ai h3 (ai h4 (ai h5 (ai h6 (ai h6 (ai h6 (ai h6 (ai h7 (ai h6 (ai h8 (ai h9 (ai h6 (ai h10 (ai h6 (ai h11 (ai h6 (ai h6 (ai h12 (ai h13 (ai h14 (ai h15 (ai h16 (ai h17 (ai h18 (ai h19 (Eq.refl (Sum.inl ([vP x1p x1o x1l, vS x3a x3n x3c, Value.bool true, vS x12a x12n x12c, vI x13, vI (x14 + 1)], H2) : LS ⊕ LO))))))))))))))))))))))))))))) (by kernel_rfl)
theorem f71_L1_2 (h1 : x14 < x13) (h2 : aX 22 (vS x12a x12n x12c) (vI x14) = some (vP x17p x17o x17l)) (h3 : getCells H x17p x17l x17o 1 = some [vI x18]) (h4 : aX 23 (vS x3a x3n x3c) (vI x18) = some (vP x21p x21o x21l)) (h5 : getCells H x21p x21l x21o 1 = some [Value.bool x22]) (h6 : x22 = false) (h7 : Fit .i64 (x14 + 1)) : lpOf cfg a71 1 prot H0 ([.pointer (some ⟨x1p, x1o, some x1l⟩), .slice x3a x3n x3c, .bool x4, .slice x12a x12n x12c, .int .i64 x13, .int .i64 x14], H) = some (Sum.inl ([Value.pointer (some ⟨x1p, x1o, some x1l⟩), Value.slice x3a x3n x3c, Value.bool x4, Value.slice x12a x12n x12c, Value.int .i64 x13, Value.int .i64 (x14 + 1)], H)) :=
 lp_of2 [.e, .b true, .v (vP x17p x17o x17l), .v (vI x18), .v (vP x21p x21o x21l), .v (.bool x22), .b false, .b false, .b false, .b false, .b false, .b false, .b false, .b false, .b false, .b false, .e] (ai (decide_eq_true h1) (ai h2 (ai h3 (ai h4 (ai h5 (ai h6 (ai h6 (ai h6 (ai h6 (ai h6 (ai h6 (ai h6 (ai h6 (ai h6 (ai (Eq.refl false) (ai h7 (Eq.refl (Sum.inl ([vP x1p x1o x1l, vS x3a x3n x3c, Value.bool x4, vS x12a x12n x12c, vI x13, vI (x14 + 1)], H) : LS ⊕ LO)))))))))))))))))) (by kernel_rfl)
theorem f71_L1_3 (h1 : ¬(x14 < x13)) : lpOf cfg a71 1 prot H0 ([.pointer (some ⟨x1p, x1o, some x1l⟩), .slice x3a x3n x3c, .bool x4, .slice x12a x12n x12c, .int .i64 x13, .int .i64 x14], H) = some (Sum.inr (Ex.exit 2, [Value.pointer (some ⟨x1p, x1o, some x1l⟩), Value.slice x3a x3n x3c, Value.bool x4], H)) :=
 lp_of2 [.e, .b false] (ai (decide_eq_false h1) (Eq.refl (Sum.inr (Ex.exit 2, [vP x1p x1o x1l, vS x3a x3n x3c, Value.bool x4], H) : LS ⊕ LO))) (by kernel_rfl)
end
end Go.Proofs.Ythjkodbinkiifaa.Am23
namespace Go.Proofs.Ythjkodbinkiifaa.Am23
open Go Go.Proofs.Ythjkodbinkiifaa.Am

/-- Where a word leads. -/
def go (k : Nat) (xs : List Int) : Nat → List Nat → Nat
 | s, [] => s
 | s, c :: w => go k xs (tgt k xs s c) w
theorem go_app (k : Nat) (xs : List Int) : ∀ (u : List Nat) (s : Nat) (v : List Nat), go k xs s (u ++ v) = go k xs (go k xs s u) v
 | [], _, _ => rfl
 | _ :: u, _, v => go_app k xs u _ v
def Wk (k : Nat) (w : List Nat) : Prop := ∀ c ∈ w, c < k
theorem go_lt {k : Nat} {xs : List Int} {bs : List Bool} (hG : Good k xs bs) : ∀ (w : List Nat) (s : Nat), Wk k w → s < bs.length → go k xs s w < bs.length
 | [], _, _, h => h
 | c :: w, _, hw, h => go_lt hG w _ (fun d hd => hw d (List.mem_cons_of_mem _ hd)) (tgt_lt hG h (hw c List.mem_cons_self)).2.1
/-- From a state a word leads to an accepted one. -/
def Hope (k : Nat) (xs : List Int) (bs : List Bool) (s : Nat) : Prop := ∃ w, Wk k w ∧ bs.getD (go k xs s w) false = true
open Classical in
noncomputable def hopeL (k : Nat) (xs : List Int) (bs : List Bool) : List Bool := (List.range bs.length).map fun s => decide (Hope k xs bs s)

theorem hopeL_get {k : Nat} {xs : List Int} {bs : List Bool} {s : Nat} (h : s < (hopeL k xs bs).length) : (hopeL k xs bs)[s] = @decide (Hope k xs bs s) (Classical.propDecidable _) := by
 simp only [hopeL, List.getElem_map]
 congr 1
 rw [List.getElem_range]
theorem hopeL_len (k : Nat) (xs : List Int) (bs : List Bool) : (hopeL k xs bs).length = bs.length := by simp [hopeL]

structure HI (k : Nat) (xs : List Int) (bs out : List Bool) : Prop where
 l : out.length = bs.length
 a : ∀ s, bs.getD s false = true → out.getD s false = true
 h : ∀ s, s < bs.length → out.getD s false = true → Hope k xs bs s
theorem hope_of {k : Nat} {xs : List Int} {bs out : List Bool} (hG : Good k xs bs) (h : HI k xs bs out) (hc : ∀ j, j < xs.length → out.getD (xs.getD j 0).toNat false = true → out.getD (j / k) false = true) : out = hopeL k xs bs := by
 have hk := hG.k1
 have key : ∀ (w : List Nat) (s : Nat), Wk k w → s < bs.length → bs.getD (go k xs s w) false = true → out.getD s false = true := by
  intro w
  induction w with
  | nil => intro s _ _ ha; exact h.a s ha
  | cons c w ih =>
   intro s hw hs ha
   have hck : c < k := hw c List.mem_cons_self
   obtain ⟨h1, h2, h3⟩ := tgt_lt hG hs hck
   have := ih _ (fun d hd => hw d (List.mem_cons_of_mem _ hd)) h2 ha
   have := hc (s * k + c) h1 this
   rwa [show (s * k + c) / k = s by rw [Nat.mul_comm, Nat.mul_add_div (by omega), Nat.div_eq_of_lt hck, Nat.add_zero]] at this
 apply List.ext_getElem
 ·simp [hopeL, h.l]
 ·intro s h1 h2
  have hs : s < bs.length := by rw [← h.l]; exact h1
  have e1 : out.getD s false = out[s] := by rw [List.getD_eq_getElem?_getD, List.getElem?_eq_getElem h1]; rfl
  rw [hopeL_get h2]
  by_cases hh : Hope k xs bs s
  ·have e2 := decide_eq_true (p := Hope k xs bs s) (inst := Classical.propDecidable _) hh
   rw [e2]
   obtain ⟨w, hw, ha⟩ := hh
   rw [← e1]
   exact key w s hw hs ha
  ·have e2 := @decide_eq_false (Hope k xs bs s) (Classical.propDecidable _) hh
   rw [e2]
   cases ho : out[s] with
   | false => rfl
   | true => exact absurd (h.h s hs (by rw [e1, ho])) hh
theorem HI.set {k : Nat} {xs : List Int} {bs out : List Bool} (hG : Good k xs bs) (h : HI k xs bs out) {i : Nat} (hi : i < xs.length) (ho : out.getD (xs.getD i 0).toNat false = true) : HI k xs bs (out.set (i / k) true) := by
 have hk := hG.k1
 have hxl := hG.nx
 have hs : i / k < bs.length := Nat.div_lt_of_lt_mul (by rw [Nat.mul_comm]; omega)
 refine ⟨by simp [h.l], fun s ha => ?_, fun s hsl hos => ?_⟩
 ·by_cases he : i / k = s
  ·rw [← he, List.getD_eq_getElem?_getD, List.getElem?_set_self (by rw [h.l]; exact hs)]; rfl
  ·rw [List.getD_eq_getElem?_getD, List.getElem?_set_ne he, ← List.getD_eq_getElem?_getD]; exact h.a s ha
 ·by_cases he : i / k = s
  ·subst he
   obtain ⟨t, ht, htl⟩ := hG.r i xs[i] (List.getElem?_eq_getElem hi)
   have hget : xs.getD i 0 = t := by rw [List.getD_eq_getElem?_getD, List.getElem?_eq_getElem hi, ht]; rfl
   rw [hget, Int.toNat_natCast] at ho
   obtain ⟨w, hw, ha⟩ := h.h t htl ho
   have hdm := Nat.div_add_mod i k
   have e : i / k * k + i % k = i := by rw [Nat.mul_comm]; exact hdm
   refine ⟨(i % k) :: w, fun d hd => ?_, ?_⟩
   ·rcases List.mem_cons.1 hd with rfl | hd
    ·exact Nat.mod_lt _ (by omega)
    ·exact hw d hd
   ·show bs.getD (go k xs (tgt k xs (i / k) (i % k)) w) false = true
    unfold tgt
    rw [e, hget, Int.toNat_natCast]
    exact ha
  ·rw [List.getD_eq_getElem?_getD, List.getElem?_set_ne he, ← List.getD_eq_getElem?_getD] at hos
   exact h.h s hsl hos

structure L71 (k : Nat) (xs : List Int) (bs : List Bool) (H0 H : AHeap) (vN vA x3 : Value) (o3 : Nat) (out : List Bool) : Prop where
 hb : H[H0.length]? = some (bx k vN vA)
 r : Rd H 3 1 vN xs.length (il xs)
 lo : Low H0.length vN
 h3 : Own H 4 1 x3 (some o3) bs.length (bll out)
 l3 : H0.length < o3

theorem loop71i {k : Nat} {xs : List Int} {bs : List Bool} (hG : Good k xs bs) {H0 : AHeap} {prot : Nat} {vN vA x3 : Value} {o3 : Nat} : ∀ (d i : Nat) (out : List Bool) (ag : Bool) (H : AHeap), i + d = xs.length → HI k xs bs out → L71 k xs bs H0 H vN vA x3 o3 out →
  ∃ H' out' ag', lpInf (lpOf cfg a71 1 prot H0) ([.pointer (some ⟨H0.length, 0, some 3⟩), x3, .bool ag, vN, .int .i64 xs.length, .int .i64 i], H) = some (.exit 2, [.pointer (some ⟨H0.length, 0, some 3⟩), x3, .bool ag'], H') ∧
   L71 k xs bs H0 H' vN vA x3 o3 out' ∧ HI k xs bs out' ∧ unmet out' ≤ unmet out ∧ (ag = true → ag' = true) ∧ (ag' = true → ag = true ∨ unmet out' < unmet out) ∧
   (ag' = false → out' = out ∧ ∀ j, i ≤ j → j < xs.length → out.getD (xs.getD j 0).toNat false = true → out.getD (j / k) false = true)
 | 0, i, out, ag, H, hi, hI, h => by
  obtain ⟨a3, c3, rfl⟩ := h.h3.len
  obtain ⟨aN, cN, rfl⟩ := h.r.len
  exact ⟨H, out, ag, lp_last (f71_L1_3 (by omega)), h, hI, Nat.le_refl _, id, .inl, fun _ => ⟨rfl, fun j h1 h2 => by omega⟩⟩
 | d + 1, i, out, ag, H, hi, hI, h => by
  obtain ⟨a3, c3, rfl⟩ := h.h3.len
  obtain ⟨aN, cN, rfl⟩ := h.r.len
  have hk := hG.k1
  have hk8 := hG.k8
  have hn5 := hG.n5
  have hxl := hG.nx
  have hb8 : bs.length * k ≤ 512 * 8 := Nat.mul_le_mul hn5 hk8
  have hil : i < xs.length := by omega
  obtain ⟨t, ht, htl⟩ := hG.r i xs[i] (List.getElem?_eq_getElem hil)
  have hget : xs.getD i 0 = t := by rw [List.getD_eq_getElem?_getD, List.getElem?_eq_getElem hil, ht]; rfl
  have hs : i / k < bs.length := Nat.div_lt_of_lt_mul (by rw [Nat.mul_comm]; omega)
  obtain ⟨g0, _, _, _⟩ := fld3 h.hb
  obtain ⟨idN, LN, n1, n2⟩ := rd_at T22 h.r (il_get hil)
  rw [ht] at n2
  have hv : ∀ s, s < bs.length → (bll out)[s]? = some (.bool (out.getD s false)) := fun s hs => by
   unfold bll; rw [List.getElem?_map, List.getD_eq_getElem?_getD, List.getElem?_eq_getElem (by rw [hI.l]; exact hs)]; rfl
  obtain ⟨_, e, m1, m2⟩ := own_at T23 h.h3 (hv t htl)
  cases e
  have fi : Fit .i64 ((i : Int) + 1) := fit64 (by omega) (by omega)
  have etd : (i : Int).tdiv (k : Int) = ((i / k : Nat) : Int) := by rw [Int.ofNat_tdiv]
  have hkz : (k : Int) ≠ 0 := by omega
  have hfit : Fit .i64 ((i : Int).tdiv (k : Int)) := by rw [etd]; exact fit64 (Int.le_trans (by decide) (Int.natCast_nonneg (i / k))) (Int.le_trans (Int.ofNat_le.2 (Nat.le_of_lt hs)) (by omega))
  by_cases hot : out.getD t false = true
  ·rw [hot] at m2
   obtain ⟨_, e, p1, p2⟩ := own_at T23 h.h3 (hv (i / k) hs)
   cases e
   by_cases hos : out.getD (i / k) false = true
   ·rw [hos] at p2
    rw [← etd] at p1
    obtain ⟨H', out', ag', u1, u2, u3, u4, u5, u6, u7⟩ := loop71i hG (prot := prot) d (i + 1) out ag H (by omega) hI h
    refine ⟨H', out', ag', lp_next (f71_L1_0 (by omega) n1 n2 m1 m2 rfl g0 hkz hfit p1 p2 rfl fi) u1, u2, u3, u4, u5, u6, fun hf => ⟨(u7 hf).1, fun j h1 h2 h3 => ?_⟩⟩
    by_cases hj : j = i
    ·rw [hj]; exact hos
    ·exact (u7 hf).2 j (by omega) h2 h3
   ·have hos : out.getD (i / k) false = false := by simpa using hos
    rw [hos] at p2
    rw [← etd] at p1
    obtain ⟨_, H2, e, s1, s2, s3, s4, s5⟩ := own_setS T23 h.h3 (i := i / k) (j := 0) hs (vs := [.bool true]) (by simp) rfl (prot := H0.length) (fun id hh => by cases hh; have := h.l3; omega)
    cases e
    rw [put_bl _ (by rw [hI.l]; exact hs)] at s3
    rw [← etd] at s1
    have lb := (List.getElem?_eq_some_iff.1 h.hb).1
    have hum := unmet_set out (i / k) (by rw [hI.l]; exact hs) hos
    have hL : L71 k xs bs H0 H2 (.slice aN xs.length cN) vA (.slice a3 bs.length c3) o3 (out.set (i / k) true) :=
     ⟨by rw [s4.2 _ lb (fun hh => by cases hh; have := h.l3; omega)]; exact h.hb, h.r.stayLow h.lo s4 (fun id hh => by cases hh; have := h.l3; omega), h.lo, s3, h.l3⟩
    obtain ⟨H', out', ag', u1, u2, u3, u4, u5, u6, u7⟩ := loop71i hG (prot := prot) d (i + 1) _ true H2 (by omega) (hI.set hG hil (by rw [hget, Int.toNat_natCast]; exact hot)) hL
    refine ⟨H', out', ag', lp_next (f71_L1_1 (by omega) n1 n2 m1 m2 rfl g0 hkz hfit p1 p2 rfl g0 hkz hfit s1 rfl s2 fi) u1, u2, u3, by omega, fun _ => u5 rfl, fun _ => .inr (by omega), fun hf => ?_⟩
    rw [u5 rfl] at hf; cases hf
  ·have hot' : out.getD t false = false := by simpa using hot
   rw [hot'] at m2
   obtain ⟨H', out', ag', u1, u2, u3, u4, u5, u6, u7⟩ := loop71i hG (prot := prot) d (i + 1) out ag H (by omega) hI h
   refine ⟨H', out', ag', lp_next (f71_L1_2 (by omega) n1 n2 m1 m2 rfl fi) u1, u2, u3, u4, u5, u6, fun hf => ⟨(u7 hf).1, fun j h1 h2 h3 => ?_⟩⟩
   by_cases hj : j = i
   ·rw [hj, hget, Int.toNat_natCast] at h3; exact absurd h3 hot
   ·exact (u7 hf).2 j (by omega) h2 h3

theorem loop71o {k : Nat} {xs : List Int} {bs : List Bool} (hG : Good k xs bs) {H0 : AHeap} {prot : Nat} {vN vA x3 : Value} {o3 : Nat} : ∀ (N : Nat) (out : List Bool) (H : AHeap), unmet out ≤ N → HI k xs bs out → L71 k xs bs H0 H vN vA x3 o3 out →
  ∃ H', lpInf (lpOf cfg a71 0 prot H0) ([.pointer (some ⟨H0.length, 0, some 3⟩), x3, .bool true], H) = some (.exit 0, [x3], H') ∧ L71 k xs bs H0 H' vN vA x3 o3 (hopeL k xs bs)
 | N, out, H, hN, hI, h => by
  obtain ⟨a3, c3, rfl⟩ := h.h3.len
  obtain ⟨aN, cN, rfl⟩ := h.r.len
  obtain ⟨_, g1, _, _⟩ := fld3 h.hb
  obtain ⟨H', out', ag', u1, u2, u3, u4, u5, u6, u7⟩ := loop71i hG (prot := prot) xs.length 0 out false H (by omega) hI h
  cases ag' with
  | false =>
   obtain ⟨e1, e2⟩ := u7 rfl
   subst e1
   have := hope_of hG u3 (fun j hj => e2 j (by omega) hj)
   rw [this] at u2
   exact ⟨H', lp_next (f71_L0_0 rfl g1 u1) (lp_last (f71_L0_1 rfl)), u2⟩
  | true =>
   rcases u6 rfl with h1 | h1
   ·cases h1
   ·obtain ⟨M, rfl⟩ : ∃ M, N = M + 1 := ⟨N - 1, by omega⟩
    obtain ⟨H2, v1, v2⟩ := loop71o hG (prot := prot) M out' H' (by omega) u3 u2
    exact ⟨H2, lp_next (f71_L0_0 rfl g1 u1) v1, v2⟩

theorem c71 {k : Nat} {xs : List Int} {bs : List Bool} {vN vA : Value} (hG : Good k xs bs) (prot : Nat) (H : AHeap) (hA : IsA H xs bs vN vA) :
  ∃ p c H', callInf cfg 71 [av k vN vA] prot H = some (.slice p bs.length c, H') ∧ Own H' 4 1 (.slice p bs.length c) (some H.length) bs.length (bll (hopeL k xs bs)) ∧ Stay none H H' := by
 have lN := hA.n.low
 have lA := hA.a.low
 obtain ⟨aN, cN, rfl⟩ := hA.n.len
 obtain ⟨aA, cA, rfl⟩ := hA.a.len
 have hb1 := hG.n1
 have hb5 := hG.n5
 obtain ⟨HX, hHX⟩ : ∃ HX, HX = H ++ [bx k (.slice aN xs.length cN) (.slice aA bs.length cA)] := ⟨_, rfl⟩
 have lX : HX.length = H.length + 1 := by rw [hHX]; simp
 have sX : Stay none H HX := by rw [hHX]; exact Stay.app none H _
 have hgX : HX[H.length]? = some (bx k (.slice aN xs.length cN) (.slice aA bs.length cA)) := by rw [hHX]; exact append_get.1
 obtain ⟨_, _, g2X, _⟩ := fld3 hgX
 have hAX := hA.stay sX
 have hcell : (bll bs).all isCell = true := by rw [List.all_eq_true]; intro v hv; obtain ⟨n, _, rfl⟩ := List.mem_map.1 hv; rfl
 obtain ⟨a, c, o, H1, q1, q2, q3, q4, q5⟩ := own_grow T23 (.inl rfl) hAX.a hcell (prot := H.length) (room := true) (by omega)
 have := q5 (by omega)
 subst this
 have hL : L71 k xs bs H H1 (.slice aN xs.length cN) (.slice aA bs.length cA) (.slice a bs.length c) HX.length bs :=
  ⟨by rw [q3.2 _ (by omega) (by simp)]; exact hgX, (hAX.stay q3).n, lN, q2, by omega⟩
 obtain ⟨H2, r1, r2⟩ := loop71o hG (prot := prot) (unmet bs) bs H1 (Nat.le_refl _) ⟨rfl, fun _ h => h, fun s hs h => ⟨[], fun _ h => (by cases h), h⟩⟩ hL
 obtain ⟨H3, s1, s2, s3⟩ := gc_own r2.h3 (H := H) (by omega) (bll_cell _)
 refine ⟨_, _, H3, ?_, s2, s3⟩
 subst hHX
 exact f71_F_0 _ _ all3 g2X q1 r1 (by rw [pfin_eq]; exact s1)
end Go.Proofs.Ythjkodbinkiifaa.Am23
namespace Go.Proofs.Ythjkodbinkiifaa.Am23
open Go Go.Proofs.Ythjkodbinkiifaa.Am

/-! ### What is searched is found -/
structure BS (k : Nat) (xs : List Int) (a : Nat) (e : Bool) (b : Bf) : Prop where
 q : ∀ t w, (t, w) ∈ b.q → Wk k w ∧ go k xs a w = t
 m : ∀ t, b.met.getD t false = true → Wk k (b.ws.getD t []) ∧ go k xs a (b.ws.getD t []) = t ∧ (e = false → b.ws.getD t [] ≠ []) ∧ ∃ w, (t, w) ∈ b.q
 st : (a, []) ∈ b.q
 em : e = true → b.met.getD a false = true
theorem getD_setB {D : List Bool} {i s : Nat} {v d : Bool} (hi : i < D.length) : (D.set i v).getD s d = if s = i then v else D.getD s d := by
 simp only [List.getD_eq_getElem?_getD, List.getElem?_set]
 by_cases h : s = i
 ·subst h; simp [hi]
 ·rw [if_neg h, if_neg (fun e => h e.symm)]
theorem getD_setW {D : List (List Nat)} {i s : Nat} {v d : List Nat} (hi : i < D.length) : (D.set i v).getD s d = if s = i then v else D.getD s d := by
 simp only [List.getD_eq_getElem?_getD, List.getElem?_set]
 by_cases h : s = i
 ·subst h; simp [hi]
 ·rw [if_neg h, if_neg (fun e => h e.symm)]
theorem BS.ini {k : Nat} {xs : List Int} {n a : Nat} (ha : a < n) (e : Bool) : BS k xs a e (bini n a e) := by
 refine ⟨fun t w h => ?_, fun t h => ?_, by simp [bini], fun h => ?_⟩
 ·simp only [bini, List.mem_singleton, Prod.mk.injEq] at h
  obtain ⟨rfl, rfl⟩ := h
  exact ⟨fun c hc => (by cases hc), rfl⟩
 ·simp only [bini] at h ⊢
  rw [getD_setB (by simpa using ha)] at h
  have hr : (List.replicate n ([] : List Nat)).getD t [] = [] := by
   rw [List.getD_eq_getElem?_getD, List.getElem?_replicate]; split <;> rfl
  split at h
  ·rename_i he
   subst he
   rw [hr]
   exact ⟨fun c hc => (by cases hc), rfl, fun h2 => (by rw [h2] at h; cases h), [], by simp⟩
  ·rw [List.getD_eq_getElem?_getD, List.getElem?_replicate] at h
   split at h <;> cases h
 ·simp only [bini]
  rw [getD_setB (by simpa using ha), if_pos rfl, h]
theorem BS.step {k : Nat} {xs : List Int} {bs : List Bool} {a : Nat} {e : Bool} (hG : Good k xs bs) {b : Bf} (ho : BOk bs.length b) (h : BS k xs a e b) {i s c : Nat} {w : List Nat} (hq : b.q[i]? = some (s, w)) (hc : c < k) :
  BS k xs a e (bstep k xs s w c b) ∧ (bstep k xs s w c b).met.getD (tgt k xs s c) false = true ∧ (∀ t, b.met.getD t false = true → (bstep k xs s w c b).met.getD t false = true) := by
 obtain ⟨hs, hw⟩ := ho.q _ _ _ hq
 obtain ⟨_, ht, _⟩ := tgt_lt hG hs hc
 unfold bstep
 split
 ·rename_i hm
  exact ⟨h, hm, fun _ h => h⟩
 ·rename_i hm
  have hmem := List.mem_of_getElem? hq
  obtain ⟨h1, h2⟩ := h.q _ _ hmem
  have hwk : Wk k (w ++ [c]) := fun d hd => by
   rcases List.mem_append.1 hd with hd | hd
   ·exact h1 d hd
   ·rw [List.mem_singleton.1 hd]; exact hc
  have hgo : go k xs a (w ++ [c]) = tgt k xs s c := by rw [go_app, h2]; rfl
  refine ⟨⟨fun t w' hm' => ?_, fun t hm' => ?_, List.mem_append_left _ h.st, fun he => ?_⟩, ?_, fun t hm' => ?_⟩
  ·rcases List.mem_append.1 hm' with hm' | hm'
   ·exact h.q _ _ hm'
   ·obtain ⟨rfl, rfl⟩ := Prod.mk.injEq .. ▸ List.mem_singleton.1 hm'
    exact ⟨hwk, hgo⟩
  ·simp only at hm' ⊢
   rw [getD_setB (by rw [ho.lm]; exact ht)] at hm'
   rw [getD_setW (by rw [ho.lw]; exact ht)]
   split at hm'
   ·rename_i he
    subst he
    rw [if_pos rfl]
    exact ⟨hwk, hgo, fun _ => by simp, _, List.mem_append_right _ (List.mem_singleton.2 rfl)⟩
   ·rename_i he
    rw [if_neg he]
    obtain ⟨g1, g2, g3, w', g4⟩ := h.m t hm'
    exact ⟨g1, g2, g3, w', List.mem_append_left _ g4⟩
  ·simp only
   rw [getD_setB (by rw [ho.lm]; exact ht)]
   split
   ·rfl
   ·exact h.em he
  ·simp only
   rw [getD_setB (by rw [ho.lm]; exact ht), if_pos rfl]
  ·simp only
   rw [getD_setB (by rw [ho.lm]; exact ht)]
   split
   ·rfl
   ·exact hm'
theorem BS.row {k : Nat} {xs : List Int} {bs : List Bool} {a : Nat} {e : Bool} (hG : Good k xs bs) {i s : Nat} {w : List Nat} : ∀ (d c : Nat) (b : Bf), c + d = k → BOk bs.length b → BS k xs a e b → b.q[i]? = some (s, w) →
  BS k xs a e (brow k xs s w d c b) ∧ (∀ c', c ≤ c' → c' < k → (brow k xs s w d c b).met.getD (tgt k xs s c') false = true) ∧ (∀ t, b.met.getD t false = true → (brow k xs s w d c b).met.getD t false = true)
 | 0, c, b, hd, _, h, _ => ⟨h, fun c' h1 h2 => by omega, fun _ h => h⟩
 | d + 1, c, b, hd, ho, h, hq => by
  obtain ⟨h1, h2, h3⟩ := h.step hG ho hq (show c < k by omega)
  obtain ⟨g1, g2, g3⟩ := BS.row hG d (c + 1) _ (by omega) (ho.step hG hq (by omega)) h1 (bstep_q hq)
  refine ⟨g1, fun c' hc1 hc2 => ?_, fun t ht => g3 t (h3 t ht)⟩
  by_cases he : c' = c
  ·subst he; exact g3 _ h2
  ·exact g2 c' (by omega) hc2
theorem BS.run {k : Nat} {xs : List Int} {bs : List Bool} {a : Nat} {e : Bool} (hG : Good k xs bs) : ∀ (f i : Nat) (b : Bf), i + f = bs.length + 2 → BOk bs.length b → BS k xs a e b → (∀ j s w, j < i → b.q[j]? = some (s, w) → ∀ c, c < k → b.met.getD (tgt k xs s c) false = true) →
  BS k xs a e (brun k xs f i b) ∧ ∀ s w, (s, w) ∈ (brun k xs f i b).q → ∀ c, c < k → (brun k xs f i b).met.getD (tgt k xs s c) false = true
 | 0, i, b, hi, ho, h, hp => by
  refine ⟨h, fun s w hm c hc => ?_⟩
  have hm : (s, w) ∈ b.q := hm
  obtain ⟨j, hj⟩ := List.getElem?_of_mem hm
  have := (List.getElem?_eq_some_iff.1 hj).1
  have := ho.u
  exact hp j s w (by omega) hj c hc
 | f + 1, i, b, hi, ho, h, hp => by
  unfold brun
  split
  ·rename_i hq
   refine ⟨h, fun s w hm c hc => ?_⟩
   obtain ⟨j, hj⟩ := List.getElem?_of_mem hm
   have := (List.getElem?_eq_some_iff.1 hj).1
   have := List.getElem?_eq_none_iff.1 hq
   exact hp j s w (by omega) hj c hc
  ·rename_i s w hq
   obtain ⟨g1, g2, g3⟩ := h.row hG k 0 b (by omega) ho hq
   refine BS.run hG f (i + 1) _ (by omega) (ho.row hG k 0 b (by omega) hq) g1 (fun j s' w' hj hq' c hc => ?_)
   have hil := (List.getElem?_eq_some_iff.1 hq).1
   by_cases he : j = i
   ·subst he
    have e2 := brow_q (k := k) (xs := xs) (s := s) (w := w) k 0 b hq
    rw [e2] at hq'
    cases hq'
    exact g2 c (by omega) hc
   ·obtain ⟨p, hp'⟩ : ∃ p, b.q[j]? = some p := ⟨_, List.getElem?_eq_getElem (show j < b.q.length by omega)⟩
    have e2 := brow_q (k := k) (xs := xs) (s := s) (w := w) k 0 b hp'
    rw [e2] at hq'
    cases hq'
    exact g3 _ (hp j _ _ (by omega) hp' c hc)
/-- What the search tells. -/
theorem bfs_met {k : Nat} {xs : List Int} {bs : List Bool} {a : Nat} (hG : Good k xs bs) (ha : a < bs.length) (e : Bool) (t : Nat) :
  (bfs k xs bs.length a e).met.getD t false = true ↔ ∃ w, Wk k w ∧ go k xs a w = t ∧ (e = false → w ≠ []) := by
 obtain ⟨h1, h2⟩ := BS.run hG (bs.length + 2) 0 (bini bs.length a e) (by omega) (BOk.ini ha e) (BS.ini ha e) (fun j s w hj => by omega)
 constructor
 ·intro h
  obtain ⟨g1, g2, g3, _⟩ := h1.m t h
  exact ⟨_, g1, g2, g3⟩
 ·rintro ⟨w, hw, hg, hn⟩
  have key : ∀ (w : List Nat) (s : Nat) (u : List Nat), (s, u) ∈ (bfs k xs bs.length a e).q → Wk k w → w ≠ [] → (bfs k xs bs.length a e).met.getD (go k xs s w) false = true := by
   intro w
   induction w with
   | nil => intro s u _ _ hn; exact absurd rfl hn
   | cons c w ih =>
    intro s u hu hw _
    have hm := h2 s u hu c (hw c List.mem_cons_self)
    show (bfs k xs bs.length a e).met.getD (go k xs (tgt k xs s c) w) false = true
    cases w with
    | nil => exact hm
    | cons c' w =>
     obtain ⟨_, _, _, u', hu'⟩ := h1.m _ hm
     exact ih _ u' hu' (fun d hd => hw d (List.mem_cons_of_mem _ hd)) (by simp)
  by_cases hwn : w = []
  ·subst hwn
   cases e with
   | false => exact absurd rfl (hn rfl)
   | true => rw [← hg]; exact h1.em rfl
  ·rw [← hg]; exact key w a [] h1.st hw hwn
end Go.Proofs.Ythjkodbinkiifaa.Am23
set_option linter.unusedVariables false
open Go Go.Proofs.Ythjkodbinkiifaa.Am
namespace Go.Proofs.Ythjkodbinkiifaa.Am23
section
variable {x0a x8a x12a x14 x15 : Int}
variable {x0ba x0ca x8ba x8ca x9aa x9ba x12ba x12ca x13a z4a x4a : Option Addr}
variable {x0bn x0bc x0cn x0cc prot x8bn x8bc x8cn x8cc x9an x9ac x9bn x9bc x12bn x12bc x12cn x12cc x13n x13c z4n z4c x4n x4c x18p x18o x18l x24p x24o x24l x29p x29o x29l : Nat}
variable {H H1 H2 H3 H0 : AHeap}
variable {x19 x25 : Bool}
theorem f53_F_0 (rv : Value) (rH : AHeap) (h1 : [vI x0a, vS x0ba x0bn x0bc, vS x0ca x0cn x0cc].all isCell = true) (h2 : getCells (H ++ [vo [vI x0a, vS x0ba x0bn x0bc, vS x0ca x0cn x0cc] 25]) H.length 3 0 3 = some [vI x8a, vS x8ba x8bn x8bc, vS x8ca x8cn x8cc]) (h3 : cI 65 [Value.agg #[vI x8a, vS x8ba x8bn x8bc, vS x8ca x8cn x8cc], vI 0, Value.bool true] H.length (H ++ [vo [vI x0a, vS x0ba x0bn x0bc, vS x0ca x0cn x0cc] 25]) = some (Value.tuple #[vS x9aa x9an x9ac, vS x9ba x9bn x9bc], H1)) (h4 : getCells H1 H.length 3 0 3 = some [vI x12a, vS x12ba x12bn x12bc, vS x12ca x12cn x12cc]) (h5 : cI 71 [Value.agg #[vI x12a, vS x12ba x12bn x12bc, vS x12ca x12cn x12cc]] H.length H1 = some (vS x13a x13n x13c, H2)) (h6 : lI a53 0 prot H ([vS x9ba x9bn x9bc, vS x13a x13n x13c, vI (↑x13n : Int), vI 0], H2) = some (Ex.exit 0, [vS z4a z4n z4c], H3)) (h7 : pfin a53 H [vS z4a z4n z4c] H3 = (rv, rH)) : callInf cfg 53 [.agg #[.int .i64 x0a, .slice x0ba x0bn x0bc, .slice x0ca x0cn x0cc]] prot H = some (rv, rH) :=
 fn_of2 a53 [.e, .v (.agg #[vI x8a, vS x8ba x8bn x8bc, vS x8ca x8cn x8cc]), .r (.tuple #[vS x9aa x9an x9ac, vS x9ba x9bn x9bc]) H1, .v (.agg #[vI x12a, vS x12ba x12bn x12bc, vS x12ca x12cn x12cc]), .r (vS x13a x13n x13c) H2, .e, .lo (.exit 0, [vS z4a z4n z4c], H3)] (ai h1 (ai h2 (ai h3 (ai h4 (ai h5 (ai h6 h7)))))) (by kernel_rfl) rfl
theorem f53_L0_0 (h1 : x15 < x14) (h2 : aX 23 (vS x13a x13n x13c) (vI x15) = some (vP x18p x18o x18l)) (h3 : getCells H x18p x18l x18o 1 = some [Value.bool x19]) (h4 : aX 23 (vS x4a x4n x4c) (vI x15) = some (vP x24p x24o x24l)) (h5 : getCells H x24p x24l x24o 1 = some [Value.bool x25]) (h6 : x25 = true) (h7 : aX 23 (vS x4a x4n x4c) (vI x15) = some (vP x29p x29o x29l)) (h8 : 1 = 1) (h9 : setCells H H0.length x29p x29l x29o [Value.bool x19] = some H2) (h10 : Fit .i64 (x15 + 1)) : lpOf cfg a53 0 prot H0 ([.slice x4a x4n x4c, .slice x13a x13n x13c, .int .i64 x14, .int .i64 x15], H) = some (Sum.inl ([Value.slice x4a x4n x4c, Value.slice x13a x13n x13c, Value.int .i64 x14, Value.int .i64 (x15 + 1)], H2)) :=
 lp_of2 [.e, .b true, .v (vP x18p x18o x18l), .v (.bool x19), .v (vP x24p x24o x24l), .v (.bool x25), .b true, .b true, .v (vP x29p x29o x29l), .h H2, .e] (ai (decide_eq_true h1) (ai h2 (ai h3 (ai h4 (ai h5 (ai h6 (ai h6 (ai h7 (ai h8 (ai h9 (ai h10 (Eq.refl (Sum.inl ([vS x4a x4n x4c, vS x13a x13n x13c, vI x14, vI (x15 + 1)], H2) : LS ⊕ LO))))))))))))) (by kernel_rfl)
theorem f53_L0_1 (h1 : x15 < x14) (h2 : aX 23 (vS x13a x13n x13c) (vI x15) = some (vP x18p x18o x18l)) (h3 : getCells H x18p x18l x18o 1 = some [Value.bool x19]) (h4 : aX 23 (vS x4a x4n x4c) (vI x15) = some (vP x24p x24o x24l)) (h5 : getCells H x24p x24l x24o 1 = some [Value.bool x25]) (h6 : x25 = false) (h7 : aX 23 (vS x4a x4n x4c) (vI x15) = some (vP x29p x29o x29l)) (h8 : 1 = 1) (h9 : setCells H H0.length x29p x29l x29o [Value.bool false] = some H2) (h10 : Fit .i64 (x15 + 1)) : lpOf cfg a53 0 prot H0 ([.slice x4a x4n x4c, .slice x13a x13n x13c, .int .i64 x14, .int .i64 x15], H) = some (Sum.inl ([Value.slice x4a x4n x4c, Value.slice x13a x13n x13c, Value.int .i64 x14, Value.int .i64 (x15 + 1)], H2)) :=
 lp_of2 [.e, .b true, .v (vP x18p x18o x18l), .v (.bool x19), .v (vP x24p x24o x24l), .v (.bool x25), .b false, .b false, .v (vP x29p x29o x29l), .h H2, .e] (ai (decide_eq_true h1) (ai h2 (ai h3 (ai h4 (ai h5 (ai h6 (ai h6 (ai h7 (ai h8 (ai h9 (ai h10 (Eq.refl (Sum.inl ([vS x4a x4n x4c, vS x13a x13n x13c, vI x14, vI (x15 + 1)], H2) : LS ⊕ LO))))))))))))) (by kernel_rfl)
theorem f53_L0_2 (h1 : ¬(x15 < x14)) : lpOf cfg a53 0 prot H0 ([.slice x4a x4n x4c, .slice x13a x13n x13c, .int .i64 x14, .int .i64 x15], H) = some (Sum.inr (Ex.exit 0, [Value.slice x4a x4n x4c], H)) :=
 lp_of2 [.e, .b false] (ai (decide_eq_false h1) (Eq.refl (Sum.inr (Ex.exit 0, [vS x4a x4n x4c], H) : LS ⊕ LO))) (by kernel_rfl)
end
end Go.Proofs.Ythjkodbinkiifaa.Am23
namespace Go.Proofs.Ythjkodbinkiifaa.Am23
open Go Go.Proofs.Ythjkodbinkiifaa.Am

theorem sl_at {W : List (List Nat)} {s : Nat} (h : s < W.length) : (sl W)[s]? = some (.string (lw (W.getD s []))) := by
 unfold sl; rw [List.getElem?_map, List.getElem?_eq_getElem h, List.getD_eq_getElem?_getD, List.getElem?_eq_getElem h]; rfl
theorem bl_at {D : List Bool} {s : Nat} (h : s < D.length) : (bll D)[s]? = some (.bool (D.getD s false)) := by
 unfold bll; rw [List.getElem?_map, List.getElem?_eq_getElem h, List.getD_eq_getElem?_getD, List.getElem?_eq_getElem h]; rfl
theorem ext_getD {D E : List Bool} (h : D.length = E.length) (k : ∀ s, s < D.length → D.getD s false = E.getD s false) : D = E := by
 apply List.ext_getElem h
 intro s h1 h2
 have := k s h1
 rw [List.getD_eq_getElem?_getD, List.getD_eq_getElem?_getD, List.getElem?_eq_getElem h1, List.getElem?_eq_getElem h2] at this
 simpa using this
/-- Which states are useful. -/
noncomputable def useL (k : Nat) (xs : List Int) (bs : List Bool) : List Bool := (List.range bs.length).map fun s => (bfs k xs bs.length 0 true).met.getD s false && (hopeL k xs bs).getD s false
theorem useL_len (k : Nat) (xs : List Int) (bs : List Bool) : (useL k xs bs).length = bs.length := by simp [useL]
theorem useL_at {k : Nat} {xs : List Int} {bs : List Bool} {s : Nat} (h : s < bs.length) : (useL k xs bs).getD s false = ((bfs k xs bs.length 0 true).met.getD s false && (hopeL k xs bs).getD s false) := by
 unfold useL
 rw [List.getD_eq_getElem?_getD, List.getElem?_map, List.getElem?_range h]
 rfl

theorem loop53 {n : Nat} (hn : n ≤ 512) {M h : List Bool} (hM : M.length = n) (hh : h.length = n) {H0 : AHeap} {prot : Nat} {x4 x13 : Value} {o4 o13 : Nat} (l4 : H0.length ≤ o4) (hne : o4 ≠ o13) : ∀ (d i : Nat) (D : List Bool) (H : AHeap), i + d = n → D.length = n →
  (∀ s, s < n → D.getD s false = if s < i then M.getD s false && h.getD s false else M.getD s false) → Own H 4 1 x4 (some o4) n (bll D) → Own H 4 1 x13 (some o13) n (bll h) →
  ∃ H', lpInf (lpOf cfg a53 0 prot H0) ([x4, x13, .int .i64 n, .int .i64 i], H) = some (.exit 0, [x4], H') ∧ ∃ D', Own H' 4 1 x4 (some o4) n (bll D') ∧ D'.length = n ∧ ∀ s, s < n → D'.getD s false = (M.getD s false && h.getD s false)
 | 0, i, D, H, hi, hD, hs, w4, w13 => by
  obtain ⟨a4, c4, rfl⟩ := w4.len
  obtain ⟨a13, c13, rfl⟩ := w13.len
  exact ⟨H, lp_last (f53_L0_2 (by omega)), D, w4, hD, fun s hs' => by rw [hs s hs', if_pos (by omega)]⟩
 | d + 1, i, D, H, hi, hD, hs, w4, w13 => by
  obtain ⟨a4, c4, rfl⟩ := w4.len
  obtain ⟨a13, c13, rfl⟩ := w13.len
  have hin : i < n := by omega
  obtain ⟨_, e, m1, m2⟩ := own_at T23 w13 (bl_at (show i < h.length by omega))
  cases e
  obtain ⟨_, e, p1, p2⟩ := own_at T23 w4 (bl_at (show i < D.length by omega))
  cases e
  have fi : Fit .i64 ((i : Int) + 1) := fit64 (by omega) (by omega)
  have hDi := hs i hin
  rw [if_neg (by omega)] at hDi
  have nxt : ∀ v : Bool, v = (D.getD i false && h.getD i false) → ∃ H', setCells H H0.length o4 (bll D).length i [.bool v] = some H' ∧ Own H' 4 1 (.slice a4 n c4) (some o4) n (bll (D.set i v)) ∧ Own H' 4 1 (.slice a13 n c13) (some o13) n (bll h) ∧ ∀ s, s < n → (D.set i v).getD s false = if s < i + 1 then M.getD s false && h.getD s false else M.getD s false := fun v hv => by
   obtain ⟨_, H2, e, s1, s2, s3, s4, s5⟩ := own_setS T23 w4 (i := i) (j := 0) hin (vs := [.bool v]) (by simp) rfl (prot := H0.length) (fun id hh => by cases hh; exact l4)
   cases e
   rw [put_bl _ (by omega)] at s3
   rw [Nat.mul_one, Nat.add_zero] at s2
   refine ⟨H2, s2, s3, w13.stay s4 (fun id h1 h2 => by cases h1; cases h2; exact hne rfl), fun s hsn => ?_⟩
   rw [getD_setB (by omega)]
   by_cases he : s = i
   ·subst he; rw [if_pos rfl, if_pos (by omega), hv, hDi]
   ·rw [if_neg he, hs s hsn]
    by_cases hlt : s < i
    ·rw [if_pos hlt, if_pos (by omega)]
    ·rw [if_neg hlt, if_neg (by omega)]
  by_cases hd : D.getD i false = true
  ·obtain ⟨H2, s2, s3, s4, s5⟩ := nxt (h.getD i false) (by rw [hd, Bool.true_and])
   obtain ⟨H', u1, u2⟩ := loop53 hn hM hh (prot := prot) l4 hne d (i + 1) _ H2 (by omega) (by simp [hD]) s5 s3 s4
   rw [hd] at p2
   exact ⟨H', lp_next (f53_L0_0 (by omega) m1 m2 p1 p2 rfl p1 rfl s2 fi) u1, u2⟩
  ·have hd : D.getD i false = false := by simpa using hd
   obtain ⟨H2, s2, s3, s4, s5⟩ := nxt false (by rw [hd, Bool.false_and])
   obtain ⟨H', u1, u2⟩ := loop53 hn hM hh (prot := prot) l4 hne d (i + 1) _ H2 (by omega) (by simp [hD]) s5 s3 s4
   rw [hd] at p2
   exact ⟨H', lp_next (f53_L0_1 (by omega) m1 m2 p1 p2 rfl p1 rfl s2 fi) u1, u2⟩

theorem c53 {k : Nat} {xs : List Int} {bs : List Bool} {vN vA : Value} (hG : Good k xs bs) (prot : Nat) (H : AHeap) (hA : IsA H xs bs vN vA) :
  ∃ p c H', callInf cfg 53 [av k vN vA] prot H = some (.slice p bs.length c, H') ∧ Own H' 4 1 (.slice p bs.length c) (some H.length) bs.length (bll (useL k xs bs)) ∧ Stay none H H' := by
 obtain ⟨HX, hHX⟩ : ∃ HX, HX = H ++ [bx k vN vA] := ⟨_, rfl⟩
 have lX : HX.length = H.length + 1 := by rw [hHX]; simp
 have sX : Stay none H HX := by rw [hHX]; exact Stay.app none H _
 have hb1 := hG.n1
 have hb5 := hG.n5
 obtain ⟨x, y, p, q, c, d, H1, r1, rfl, rfl, r2, r3, r4, r5⟩ := c65 hG (a := 0) (by omega) true H.length HX (hA.stay sX)
 obtain ⟨p', c', H2, s1, s2, s3⟩ := c71 hG H.length H1 ((hA.stay sX).stay r4)
 obtain ⟨aN, cN, rfl⟩ := hA.n.len
 obtain ⟨aA, cA, rfl⟩ := hA.a.len
 have hgX : HX[H.length]? = some (bx k (.slice aN xs.length cN) (.slice aA bs.length cA)) := by rw [hHX]; exact append_get.1
 have hg1 : H1[H.length]? = some (bx k (.slice aN xs.length cN) (.slice aA bs.length cA)) := by rw [r4.2 _ (by omega) (by simp)]; exact hgX
 obtain ⟨_, _, _, gX⟩ := fld3 hgX
 obtain ⟨_, _, _, g1⟩ := fld3 hg1
 have hok := bfs_ok hG (show 0 < bs.length by omega) true
 obtain ⟨H3, t1, D', t2, t3, t4⟩ := loop53 hb5 hok.lm (hopeL_len k xs bs) (H0 := H) (prot := prot) (by omega) (by omega) bs.length 0 _ H2 (by omega) hok.lm (fun s hs => by rw [if_neg (by omega)]) (r3.stay s3 (fun id _ h => by cases h)) s2
 have hDu : D' = useL k xs bs := by
  refine ext_getD (by rw [t3, useL_len]) (fun s hs => ?_)
  rw [t4 s (by omega), useL_at (by omega)]
 subst hDu
 obtain ⟨H4, u1, u2, u3⟩ := gc_own t2 (H := H) (by omega) (bll_cell _)
 refine ⟨_, _, H4, ?_, u2, u3⟩
 subst hHX
 exact f53_F_0 _ _ all3 gX r1 g1 s1 t1 (by rw [pfin_eq]; exact u1)
end Go.Proofs.Ythjkodbinkiifaa.Am23
