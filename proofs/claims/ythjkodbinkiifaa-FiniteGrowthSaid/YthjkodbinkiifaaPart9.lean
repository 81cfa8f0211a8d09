/- A part of the proof of a given statement: AmRow. No condition. -/
import Derived.Test.YthjkodbinkiifaaPart8
import Derived.SizedLaws
import Derived.ProofKit
import Derived.OpenShut
import Derived.ChangeMaps5
namespace Go.Proofs.Ythjkodbinkiifaa.Am
open Go Go.RowKit Go.ChangeShapes

theorem strip_annot : ∀ (c : Code) (l : List (List Nat)), strip (annot c l).1 = c := by
 intro c
 induction c <;> intro l <;> simp_all [annot, strip]

/-- What a function of the table must be. -/
def EntryOK (P : Program) (f : Nat) (fn : AFunc) : Prop :=
 ∃ (func : Func) (c : Code), P.funcs[f]? = some func ∧ func.body = some c ∧ strip fn.body = c ∧ func.ntmps = fn.nt ∧ func.results.toList = fn.results ∧ (func.name == "runtime.NumGoroutine") = false

theorem entry_mk {P : Program} {f : Nat} {func : Func} (hf : P.funcs[f]? = some func) (ann : List (List Nat)) (muts : Bool) (memo : Option Value) (hb : func.body.isSome = true) (hn : (func.name == "runtime.NumGoroutine") = false) :
  EntryOK P f { nt := func.ntmps, results := func.results.toList, body := (annot (func.body.getD .skip) ann).1, muts := muts, memo := memo } := by
 obtain ⟨c, hc⟩ := Option.isSome_iff_exists.1 hb
 exact ⟨func, c, hf, hc, by rw [strip_annot, hc]; rfl, rfl, rfl, hn⟩

theorem lookup_mem {l : List (Nat × AFunc)} {f : Nat} {fn : AFunc} (h : l.lookup f = some fn) : (f, fn) ∈ l := by
 induction l with
 | nil => simp at h
 | cons x l ih =>
  obtain ⟨a, b⟩ := x
  simp only [List.lookup] at h
  split at h
  ·rename_i hh
   have : f = a := by simpa using hh
   subst this
   cases h
   exact List.mem_cons_self
  ·exact List.mem_cons_of_mem _ (ih h)

def TabOK (P : Program) (l : List (Nat × AFunc)) : Prop := ∀ p ∈ l, EntryOK P p.1 p.2
theorem tab_nil (P : Program) : TabOK P [] := fun _ h => by cases h
theorem tab_cons {P : Program} {f : Nat} {fn : AFunc} {l : List (Nat × AFunc)} (h : EntryOK P f fn) (k : TabOK P l) : TabOK P ((f, fn) :: l) := fun p hp => by
 rcases List.mem_cons.1 hp with rfl | hp
 ·exact h
 ·exact k p hp

theorem memo_only {l : List (Nat × AFunc)} {k : Nat} (h : l.all (fun p => p.2.memo.isNone || decide (p.1 = k)) = true) {f : Nat} {fn : AFunc} {v : Value} (hf : l.lookup f = some fn) (hv : fn.memo = some v) : f = k := by
 have := List.all_eq_true.1 h _ (lookup_mem hf)
 simpa [hv] using this

/-- A table with one function that is known: first run it by its body. -/
theorem codeOK_body {P : Program} {ext : FuncId → Option (List Value → Option Value)} {l : List (Nat × AFunc)} {k : Nat} {b : AFunc} (hm : P.follows .mixedOrders = true) (h : TabOK P l) (hb : EntryOK P k b) (hn : b.memo = none) (hl : l.all (fun p => p.2.memo.isNone || decide (p.1 = k)) = true) :
  CodeOK { P := P, ext := ext, code := fun f => ((k, b) :: l).lookup f } := by
 refine ⟨fun f fn v hf hv => ?_, hm, fun f fn hf => ?_⟩
 ·exfalso
  simp only [List.lookup] at hf
  split at hf
  ·cases hf
   rw [hn] at hv
   cases hv
  ·rename_i hne
   have := memo_only hl hf hv
   simp [this] at hne
 ·have hf' : ((k, b) :: l).lookup f = some fn := hf
  rcases List.mem_cons.1 (lookup_mem hf') with hh | hh
  ·injection hh with h1 h2
   subst h1; subst h2
   exact hb
  ·exact h _ hh
theorem codeOK_known {P : Program} {ext : FuncId → Option (List Value → Option Value)} {l : List (Nat × AFunc)} {k : Nat} {a b : AFunc} {v : Value} {H1 : AHeap} (hm : P.follows .mixedOrders = true) (h : TabOK P l) (hb : EntryOK P k b) (hn : b.memo = none) (hl : l.all (fun p => p.2.memo.isNone || decide (p.1 = k)) = true)
  (hext : ExtSound P ext) (ha : l.lookup k = some a) (hv : a.memo = some v) (hp : plain1 v = true) (hr : callInf { P := P, ext := ext, code := fun f => ((k, b) :: l).lookup f } k [] 0 [] = some (v, H1)) :
  CodeOK { P := P, ext := ext, code := fun f => l.lookup f } := by
 refine ⟨fun f fn v' hf hv' => ?_, hm, fun f fn hf => h _ (lookup_mem hf)⟩
 have e := memo_only hl hf hv'
 subst e
 have e2 : fn = a := Option.some.inj (hf.symm.trans ha)
 subst e2
 have e3 : v' = v := Option.some.inj (hv'.symm.trans hv)
 subst e3
 exact memo_of (codeOK_body hm h hb hn hl) hext hr hp

/-- The bool that a law hands back, and its arguments as they were. -/
theorem post_true {P : Program} {H : Type} {enc : TypeId × Value → H} {f : Func} {s : ChangeSpec} {apart fresh handsOn : Bool} {W W' : World} {args : Array Value} {ds gs : List (DataW H)} {before : List MemPlace} {tb : TypeId}
  (hl : laidOutB P = true) (hpar : f.params.all (fun t => P.readableRec t && decide (t < P.types.size)) = true) (hr : f.resultTypes = #[tb]) (htb : P.underlying tb = some .bool) (hvs : s.vars = [])
  (hs1 : (s.fn H (ds ++ gs)).results = [.lit (.bool true)]) (hs2 : (s.fn H (ds ++ gs)).args = ds) (hs3 : (s.fn H (ds ++ gs)).vars = [])
  (hW : DataW.Whole enc P f.params.toList s.vars apart W args.toList ds gs before) (hb : Below W.heap.size W W') : s.post enc P f apart fresh handsOn false W args (.bool true) W' := by
 have hW0 := hW
 obtain ⟨p, q, hA, hV, rfl, hz, hn⟩ := hW
 rw [hvs] at hV
 obtain ⟨rfl, rfl⟩ := trodVars_none hV
 rw [List.append_nil] at hW0 hz hn
 have hlt : ∀ x ∈ p, x.block < W.heap.size := fun x hx => by simpa using hW0.lt x hx
 have hargs : ∀ (ts : List TypeId) (vs : List Value) (ds : List (DataW H)) (p : List MemPlace), (∀ t ∈ ts, (P.readableRec t && decide (t < P.types.size)) = true) → DataW.TrodAll enc P W 0 (fun _ => true) true ts vs ds p → (∀ x ∈ p, x.block < W.heap.size) →
   DataW.TrodAll enc P W' 0 (fun b => decide (b < W.heap.size)) true ts vs ds p := by
  intro ts
  induction ts with
  | nil =>
   intro vs ds p _ h _
   obtain ⟨rfl, rfl, rfl⟩ := trodAll_nil h
   exact h
  | cons t ts ih =>
   intro vs ds p ht h hp
   obtain ⟨v, vs', d, ds', p1, p2, rfl, rfl, rfl, h1, h2⟩ := trodAll_cons h
   have h3 := ht t List.mem_cons_self
   rw [Bool.and_eq_true, decide_eq_true_eq] at h3
   exact trodAll_cons_mk (Below.trod hl h3.1 h3.2 h1 hb fun x hx => hp x (by simp [hx])) (ih _ _ _ (fun t' ht' => ht t' (List.mem_cons_of_mem _ ht')) h2 fun x hx => hp x (by simp [hx]))
 have hpar' : ∀ t ∈ f.params.toList, (P.readableRec t && decide (t < P.types.size)) = true := fun t ht => by
  rw [← Array.all_toList] at hpar
  exact List.all_eq_true.1 hpar t ht
 have hA' := hargs _ _ _ _ hpar' hA hlt
 refine ⟨ds, [], p, [], p, [], hW0, ?_, ?_, ?_, hb.frame _, fun h => by cases h⟩
 ·rw [hs1, hr]
  exact trodAll_mk1 (shut_bool htb true)
 ·rw [hs2]; exact hA'
 ·rw [hs3, hvs]
  rfl
end Go.Proofs.Ythjkodbinkiifaa.Am
