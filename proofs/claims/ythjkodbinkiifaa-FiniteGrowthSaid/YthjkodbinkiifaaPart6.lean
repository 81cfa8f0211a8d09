/- A part of the proof of a given statement: AmStep, AmOvl, AmDraw, AmDraw2, AmDraw3, AmDraw4, AmDraw5. No condition. -/
import Derived.Test.YthjkodbinkiifaaPart5
import Derived.Calls
namespace Go.Proofs.Ythjkodbinkiifaa.Am
open Go Go.RowKit

def ClSound (P : Program) (w0 : World) (cl : FuncId → List Value → Nat → AHeap → Option (Value × AHeap)) : Prop :=
 ∀ (f : FuncId) (args : List Value) (prot : Nat) (H : AHeap) (v : Value) (H' : AHeap) (μ : PMap) (w : World) (args' : List Value), cl f args prot H = some (v, H') → Sim P w0 μ H w → LRel μ args args' →
  Calls P f args'.toArray w fun e w' => ∃ v' μ', e = .returned v' ∧ Sub μ μ' ∧ VRel μ' v v' ∧ Sim P w0 μ' H' w'

def ExtSound (P : Program) (ext : FuncId → Option (List Value → Option Value)) : Prop :=
 ∀ (g : FuncId) (e : List Value → Option Value) (args : List Value) (v : Value) (w : World), ext g = some e → e args = some v → (callFunc g args.toArray).run P w = .ok (.value v) w

/-- The functions with a body are entered. -/
def Entered (P : Program) (cl : FuncId → List Value → Nat → AHeap → Option (Value × AHeap)) : Prop :=
 ∀ (f : FuncId) (args : List Value) (prot : Nat) (H : AHeap) (r : Value × AHeap), cl f args prot H = some r → ∀ (args' : Array Value) (w : World), (callFunc f args').run P w = .ok (.enter f args') w

def FrRel (μ : PMap) (nt : Nat) (fr : Frame) (a : Act) : Prop := a.tmps.size = nt ∧ ∀ t, VRel μ (fr t) (a.tmps.getD t undef)
theorem FrRel.mono {μ μ' : PMap} {nt : Nat} {fr : Frame} {a : Act} (hs : Sub μ μ') (h : FrRel μ nt fr a) : FrRel μ' nt fr a := ⟨h.1, fun t => (h.2 t).mono hs⟩

theorem FrRel.eval {μ : PMap} {nt : Nat} {fr : Frame} {a : Act} (h : FrRel μ nt fr a) (x : Operand) : VRel μ (aeval fr x) (a.eval x) := by
 cases x with
 | tmp t => exact h.2 t
 | const v =>
  simp only [aeval, Act.eval]
  split
  ·rename_i hp; exact VRel.of_plain hp
  ·exact .any _
 | global g => exact .gptr g 0
 | func f => exact .func f #[] #[] #[] #[] rfl (fun i x y hx _ => by simp at hx) rfl fun i x y hx _ => by simp at hx

theorem FrRel.evals {μ : PMap} {nt : Nat} {fr : Frame} {a : Act} (h : FrRel μ nt fr a) (xs : Array Operand) : LRel μ (xs.toList.map (aeval fr)) (xs.map a.eval).toList := by
 refine ⟨by simp, fun i x y hx hy => ?_⟩
 simp only [Array.toList_map] at hy
 rw [List.getElem?_map] at hx hy
 obtain ⟨u, hu, rfl⟩ := map_some' hx
 rw [hu] at hy
 simp at hy; subst hy
 exact h.eval u

theorem FrRel.put {μ : PMap} {nt : Nat} {fr : Frame} {a : Act} (h : FrRel μ nt fr a) {d : Option Tmp} {v v' : Value} (hv : VRel μ v v') : FrRel μ nt (Am.put nt fr d v) (a.put d v') := by
 cases d with
 | none => exact h
 | some d =>
  simp only [Am.put, Act.put]
  split
  ·rename_i hd
   refine ⟨by simpa using h.1, fun t => ?_⟩
   by_cases ht : t = d
   ·subst ht
    simp only [upd, if_true]
    rw [Array.getD_eq_getD_getElem?, Array.getElem?_setIfInBounds_self, if_pos (by rw [h.1]; exact hd)]
    exact hv
   ·simp only [upd, if_neg ht]
    rw [Array.getD_eq_getD_getElem?, Array.getElem?_setIfInBounds_ne (fun e => ht e.symm), ← Array.getD_eq_getD_getElem?]
    exact h.2 t
  ·rename_i hd
   refine ⟨by simpa using h.1, fun t => ?_⟩
   have : a.tmps.setIfInBounds d v' = a.tmps := by
    apply Array.ext_getElem?
    intro i
    by_cases hi : i = d
    ·subst hi
     rw [Array.getElem?_setIfInBounds_self, if_neg (by rw [h.1]; exact hd), Array.getElem?_eq_none (by rw [h.1]; exact Nat.le_of_not_lt hd)]
    ·rw [Array.getElem?_setIfInBounds_ne (fun e => hi e.symm)]
   simp only [this]
   exact h.2 t

section
variable {w0 w : World} {μ : PMap} {H H' : AHeap} {fr : Frame} {a : Act} {K : Act → World → Prop} {Q : Exit → Act → World → Prop}

theorem wp_of_run {P : Program} {o : Oper} {v' : Value} {w' : World} (h : (execOp a.eval o).run P w = .ok (.value v') w') (hK : K (a.put o.dst v') w') : o.wp P a w K Q := by
 unfold Oper.wp
 rw [h]
 exact hK
theorem wp_of_skip {P : Program} {o : Oper} {w' : World} (h : (execOp a.eval o).run P w = .ok .skip w') (hK : K (a.put o.dst undef) w') : o.wp P a w K Q := by
 unfold Oper.wp
 rw [h]
 exact hK

theorem wp_of_does {P : Program} {o : Oper} {v : Value} {s : Sem Value} (hd : Does P w0 μ w v H' s) (he : execOp a.eval o = (do pure (.value (← s))))
  (hK : ∀ μ' v' w', Sub μ μ' → VRel μ' v v' → Sim P w0 μ' H' w' → K (a.put o.dst v') w') : o.wp P a w K Q := by
 obtain ⟨μ', v', w', h1, h2, h3, h4⟩ := hd
 exact wp_of_run (by rw [he]; simp [h1]) (hK μ' v' w' h2 h3 h4)
theorem wp_of_acts {P : Program} {o : Oper} {s : Sem Unit} (hd : Acts P w0 μ w H' s) (he : execOp a.eval o = (do s; pure .skip))
  (hK : ∀ μ' v' w', Sub μ μ' → VRel μ' undef v' → Sim P w0 μ' H' w' → K (a.put o.dst v') w') : o.wp P a w K Q := by
 obtain ⟨μ', w', h1, h2, h4⟩ := hd
 exact wp_of_skip (by rw [he]; simp [h1]) (hK μ' undef w' h2 (.any _) h4)

theorem parts_rel {nt : Nat} (hfr : FrRel μ nt fr a) (ps : Array (Nat × Operand)) : PRel μ (ps.toList.map fun p => (p.1, aeval fr p.2)) (ps.map fun (i, x) => (i, a.eval x)).toList := by
 refine ⟨by simp, fun i x y hx hy => ?_⟩
 simp only [Array.toList_map] at hy
 rw [List.getElem?_map] at hx hy
 obtain ⟨u, hu, rfl⟩ := map_some' hx
 rw [hu] at hy
 simp at hy; subst hy
 exact ⟨rfl, hfr.eval u.2⟩

theorem ORel.of_map {nt : Nat} (hfr : FrRel μ nt fr a) (x : Option Operand) : ORel μ (x.map (aeval fr)) (x.map a.eval) := by
 cases x with
 | none => trivial
 | some x => exact hfr.eval x

theorem aop_wp {S : Sys} (hcl : ClSound S.P w0 S.cl) (hen : Entered S.P S.cl) (hext : ExtSound S.P S.ext) {o : Oper} {v : Value} (h : aop S o.op fr H = some (v, H')) (hS : Sim S.P w0 μ H w) (hfr : FrRel μ S.nt fr a)
  (hK : ∀ μ' v' w', Sub μ μ' → VRel μ' v v' → Sim S.P w0 μ' H' w' → K (a.put o.dst v') w') : o.wp S.P a w K Q := by
 have ev := hfr.eval
 cases hop : o.op with
 | move x => rw [hop] at h; cases h; exact wp_of_run (by simp [execOp, hop]) (hK μ _ w (Sub.refl μ) (ev x) hS)
 | assign x => rw [hop] at h; cases h; exact wp_of_run (by simp [execOp, hop]) (hK μ _ w (Sub.refl μ) (ev x) hS)
 | pick c x y =>
  rw [hop] at h
  simp only [aop] at h
  split at h
  ·rename_i t ht
   cases h
   have hc := ev c
   rw [ht] at hc
   refine wp_of_run (v' := if t then a.eval x else a.eval y) (by simp [execOp, hop, hc.bool_inv, asBool]) (hK μ _ w (Sub.refl μ) ?_ hS)
   cases t
   ·exact ev y
   ·exact ev x
  ·cases h
 | alloc e => rw [hop] at h; exact wp_of_does (aalloc_sound hS h) (by simp [execOp, hop]) hK
 | box e x => rw [hop] at h; exact wp_of_does (abox_sound hS h (ev x)) (by simp [execOp, hop]) hK
 | build t ps =>
  rw [hop] at h
  obtain ⟨h1, rfl⟩ := quiet_some h
  exact wp_of_does ((abuild_sound h1 (parts_rel (a := a) hfr ps)).does hS) (by simp [execOp, hop]) hK
 | buildSlice t n ps => rw [hop] at h; exact wp_of_does (abuildSlice_sound hS h (parts_rel (a := a) hfr ps)) (by simp [execOp, hop]) hK
 | load t x =>
  rw [hop] at h
  obtain ⟨h1, rfl⟩ := quiet_some h
  exact wp_of_does ((aload_sound hS h1 (ev x)).does hS) (by simp [execOp, hop]) hK
 | store t x y =>
  rw [hop] at h
  obtain ⟨h1, rfl⟩ := effect_some h
  exact wp_of_acts (astore_sound hS h1 (ev x) (ev y)) (by simp [execOp, hop]) hK
 | nilCheck x =>
  rw [hop] at h
  obtain ⟨h1, rfl⟩ := quiet_some h
  have hx := ev x
  unfold anil at h1
  split at h1
  ·rename_i ad he
   rw [he] at hx
   cases h1
   obtain ⟨b', hb', hn⟩ := hx.pointer_inv
   cases b' with
   | none => cases hn
   | some b' => exact wp_of_run (v' := .pointer (some b')) (by simp [execOp, hop, hb']) (hK μ _ w (Sub.refl μ) (by rw [← hb']; exact hx) hS)
  ·rename_i f fi cap he
   rw [he] at hx
   cases h1
   obtain ⟨fi', cap', hc', _⟩ := hx.func_inv
   exact wp_of_run (v' := .func (.func f) fi' cap') (by simp [execOp, hop, hc']) (hK μ _ w (Sub.refl μ) (by rw [← hc']; exact hx) hS)
  ·rename_i m he
   rw [he] at hx
   cases h1
   obtain ⟨b', hb', _⟩ := hx.map_any
   exact wp_of_run (v' := .map b') (by simp [execOp, hop, hb']) (hK μ _ w (Sub.refl μ) (by rw [← hb']; exact hx) hS)
  ·rename_i b n c he
   rw [he] at hx
   cases h1
   obtain ⟨b', c', hb', _⟩ := hx.slice_any
   exact wp_of_run (v' := .slice b' n c') (by simp [execOp, hop, hb']) (hK μ _ w (Sub.refl μ) (by rw [← hb']; exact hx) hS)
  ·cases h1
 | binOp op t x y yt =>
  rw [hop] at h
  obtain ⟨h1, rfl⟩ := quiet_some h
  exact wp_of_does ((abin_sound h1 (ev x) (ev y) x y).does hS) (by simp [execOp, hop]) hK
 | unOp op t x =>
  rw [hop] at h
  obtain ⟨h1, rfl⟩ := quiet_some h
  exact wp_of_does ((aun_sound h1 (ev x)).does hS) (by simp [execOp, hop]) hK
 | convert src dst x =>
  rw [hop] at h
  obtain ⟨h1, rfl⟩ := quiet_some h
  exact wp_of_does ((aconv_sound hS h1 (ev x)).does hS) (by simp [execOp, hop]) hK
 | makeFunc fn first cap =>
  rw [hop] at h
  cases fn with
  | func f =>
   simp only [aop] at h
   cases h
   refine wp_of_run (v' := .func (.func f) (first.map a.eval) (cap.map a.eval)) (by simp [execOp, hop, Instr.makeFunc]) (hK μ _ w (Sub.refl μ) ?_ hS)
   have h1 := hfr.evals first
   have h2 := hfr.evals cap
   refine .func f _ _ _ _ (by simp) (fun i x y hx hy => h1.2 i x y (by simpa using hx) (by simpa using hy)) (by simp) fun i x y hx hy => h2.2 i x y (by simpa using hx) (by simpa using hy)
  | _ => cases h
 | makeMap t r =>
  rw [hop] at h
  cases r with
  | none => exact wp_of_does (amakeMap_sound (t := t) hS h) (by simp [execOp, hop]) hK
  | some r => cases h
 | makeSlice t l c => rw [hop] at h; exact wp_of_does (amakeSlice_sound hS h (ev l) (ev c)) (by simp [execOp, hop]) hK
 | slice t x lo hi mx =>
  rw [hop] at h
  obtain ⟨h1, rfl⟩ := quiet_some h
  exact wp_of_does ((aslice_sound hS h1 (ev x) (ORel.of_map (a := a) hfr lo) (ORel.of_map (a := a) hfr hi) (ORel.of_map (a := a) hfr mx)).does hS) (by simp [execOp, hop]) hK
 | fieldAddr t x f =>
  rw [hop] at h
  obtain ⟨h1, rfl⟩ := quiet_some h
  exact wp_of_does ((afieldAddr_sound h1 (ev x)).does hS) (by simp [execOp, hop]) hK
 | field t x f =>
  rw [hop] at h
  obtain ⟨h1, rfl⟩ := quiet_some h
  exact wp_of_does ((afield_sound h1 (ev x)).does hS) (by simp [execOp, hop]) hK
 | indexAddr t x i =>
  rw [hop] at h
  obtain ⟨h1, rfl⟩ := quiet_some h
  exact wp_of_does ((aindexAddr_sound h1 (ev x) (ev i)).does hS) (by simp [execOp, hop]) hK
 | index t x i =>
  rw [hop] at h
  obtain ⟨h1, rfl⟩ := quiet_some h
  exact wp_of_does ((aindex_sound h1 (ev x) (ev i)).does hS) (by simp [execOp, hop]) hK
 | lookup t x i ok =>
  rw [hop] at h
  obtain ⟨h1, rfl⟩ := quiet_some h
  exact wp_of_does ((alookup_sound hS h1 (ev x) (ev i)).does hS) (by simp [execOp, hop]) hK
 | mapUpdate t m k x =>
  rw [hop] at h
  obtain ⟨h1, rfl⟩ := effect_some h
  exact wp_of_acts (amapUpdate_sound hS h1 (ev m) (ev k) (ev x)) (by simp [execOp, hop]) hK
 | insert t m k x =>
  rw [hop] at h
  obtain ⟨h1, rfl⟩ := effect_some h
  exact wp_of_acts (amapUpdate_sound hS h1 (ev m) (ev k) (ev x)) (by simp [execOp, hop]) hK
 | range t x => rw [hop] at h; exact wp_of_does (arange_sound hS h (ev x)) (by simp [execOp, hop]) hK
 | next it isS =>
  rw [hop] at h
  cases isS with
  | true => exact wp_of_does (anext_sound (ty := o.type) hS h (ev it)) (by simp [execOp, hop]) hK
  | false => cases h
 | extract t i =>
  rw [hop] at h
  obtain ⟨h1, rfl⟩ := quiet_some h
  exact wp_of_does ((aextract_sound h1 (ev t)).does hS) (by simp [execOp, hop]) hK
 | call c =>
  rw [hop] at h
  obtain ⟨callee, args, ts⟩ := c
  cases callee with
  | builtin b =>
   simp only [aop] at h
   have hargs := hfr.evals args
   unfold abuiltin at h
   split at h
   ·rename_i t x hts hxs
    obtain ⟨h1, rfl⟩ := quiet_some h
    rw [hxs] at hargs
    have hts' : ts = #[t] := by apply Array.ext'; simpa using hts
    subst hts'
    match hm : (args.map a.eval).toList, hargs with
    | [x'], hargs =>
     have hm' : args.map a.eval = #[x'] := by apply Array.ext'; simpa using hm
     exact wp_of_does ((alen_sound (ty := o.type) hS h1 (hargs.2 0 x x' rfl rfl)).does hS) (by simp [execOp, hop, resolve, invoke, builtin, hm']) hK
   ·rename_i t t' x y hts hxs
    rw [hxs] at hargs
    have hts' : ts = #[t, t'] := by apply Array.ext'; simpa using hts
    subst hts'
    match hm : (args.map a.eval).toList, hargs with
    | [x', y'], hargs =>
     have hm' : args.map a.eval = #[x', y'] := by apply Array.ext'; simpa using hm
     exact wp_of_does (aappend_sound (ty := o.type) hS h (hargs.2 0 x x' rfl rfl) (hargs.2 1 y y' rfl rfl)) (by simp [execOp, hop, resolve, invoke, builtin, hm']) hK
   ·rename_i t t' x y hts hxs
    rw [hxs] at hargs
    have hts' : ts = #[t, t'] := by apply Array.ext'; simpa using hts
    subst hts'
    match hm : (args.map a.eval).toList, hargs with
    | [x', y'], hargs =>
     have hm' : args.map a.eval = #[x', y'] := by apply Array.ext'; simpa using hm
     exact wp_of_does (acopy_sound (ty := o.type) hS h (hargs.2 0 x x' rfl rfl) (hargs.2 1 y y' rfl rfl)) (by simp [execOp, hop, resolve, invoke, builtin, hm']) hK
   ·rename_i x y hxs
    obtain ⟨h1, rfl⟩ := quiet_some h
    rw [hxs] at hargs
    match hm : (args.map a.eval).toList, hargs with
    | [x', y'], hargs =>
     have hm' : args.map a.eval = #[x', y'] := by apply Array.ext'; simpa using hm
     exact wp_of_does ((amax_sound (ts := ts) (ty := o.type) h1 (hargs.2 0 x x' rfl rfl) (hargs.2 1 y y' rfl rfl)).does hS) (by simp [execOp, hop, resolve, invoke, builtin, hm']) hK
   ·rename_i x y hxs
    obtain ⟨h1, rfl⟩ := quiet_some h
    rw [hxs] at hargs
    match hm : (args.map a.eval).toList, hargs with
    | [x', y'], hargs =>
     have hm' : args.map a.eval = #[x', y'] := by apply Array.ext'; simpa using hm
     exact wp_of_does ((amin_sound (ts := ts) (ty := o.type) h1 (hargs.2 0 x x' rfl rfl) (hargs.2 1 y y' rfl rfl)).does hS) (by simp [execOp, hop, resolve, invoke, builtin, hm']) hK
   ·rename_i t tl x k hts hxs
    obtain ⟨h1, rfl⟩ := effect_some h
    rw [hxs] at hargs
    have hts' : ts = (t :: tl).toArray := by apply Array.ext'; simpa using hts
    subst hts'
    match hm : (args.map a.eval).toList, hargs with
    | [x', k'], hargs =>
     have hm' : args.map a.eval = #[x', k'] := by apply Array.ext'; simpa using hm
     obtain ⟨w', g1, g2⟩ := amapDelete_sound (ty := o.type) (ts := tl) hS h1 (hargs.2 0 x x' rfl rfl) (hargs.2 1 k k' rfl rfl)
     exact wp_of_run (v' := .tuple #[]) (by simp only [execOp, hop, resolve, invoke, builtin, hm', Sem.run_bind, Sem.run_pure, Result.andThen_ok, g1]) (hK μ _ w' (Sub.refl μ) (.any _) g2)
   ·cases h
  | value f =>
   simp only [aop] at h
   split at h
   case h_2 => cases h
   have hf := ev f
   have hargs := hfr.evals args
   unfold acall at h
   split at h
   case h_2 => cases h
   rename_i g first cap he
   rw [he] at hf
   obtain ⟨fi', cap', hf', hfir, hcapr⟩ := hf.func_inv
   have hres : execOp a.eval o = (do pure (← callFunc g (fi' ++ args.map a.eval ++ cap'))) := by
    simp [execOp, hop, resolve, Deferred.ofValue, hf', invoke]
   have hall : LRel μ (first.toList ++ (args.toList.map (aeval fr) ++ cap.toList)) (fi'.toList ++ ((args.map a.eval).toList ++ cap'.toList)) := hfir.append (hargs.append hcapr)
   split at h
   ·rename_i e hee
    split at h
    ·rename_i hc
     obtain ⟨hpl, hfe, hce⟩ := hc
     obtain ⟨h1, rfl⟩ := quiet_some h
     obtain ⟨u, h2, h3⟩ := bind_some' h1
     split at h3
     ·rename_i hpv
      cases h3
      have hcap0 : cap'.toList = [] := by
       have : cap.toList = [] := by simpa using hce
       have hl := hcapr.1
       rw [this] at hl
       exact List.eq_nil_of_length_eq_zero hl.symm
      have hfi0 : fi'.toList = [] := by
       have : first.toList = [] := by simpa using hfe
       have hl := hfir.1
       rw [this] at hl
       exact List.eq_nil_of_length_eq_zero hl.symm
      have hargs0 : (args.map a.eval).toList = args.toList.map (aeval fr) := by
       apply List.ext_getElem?
       intro i
       cases hi : (args.toList.map (aeval fr))[i]? with
       | none => rw [List.getElem?_eq_none_iff] at hi ⊢; rw [← hargs.1]; exact hi
       | some x =>
        obtain ⟨y, hy, hr⟩ := hargs.get hi
        rw [hy, hr.plain1_inv (List.all_eq_true.1 hpl x (List.mem_of_getElem? hi))]
      have hrun := hext g e _ v w hee h2
      have harr : fi' ++ args.map a.eval ++ cap' = (args.toList.map (aeval fr)).toArray := by
       apply Array.ext'
       rw [Array.toList_append, Array.toList_append, hcap0, List.append_nil, hfi0, List.nil_append, hargs0]
      exact wp_of_run (v' := v) (by rw [hres, harr]; simp [hrun]) (hK μ v w (Sub.refl μ) (VRel.of_plain hpv) hS)
     ·cases h3
    ·cases h
   ·have hc := hcl g _ S.prot H v H' μ w _ h hS hall
    have hee := hen g _ _ _ _ h (fi' ++ args.map a.eval ++ cap') w
    have harr : (fi'.toList ++ ((args.map a.eval).toList ++ cap'.toList)).toArray = fi' ++ args.map a.eval ++ cap' := by apply Array.ext'; simp
    rw [harr] at hc
    unfold Oper.wp
    rw [hres]
    generalize fi' ++ args.map a.eval ++ cap' = ar at hc hee ⊢
    rw [show (do pure (← callFunc g ar) : Sem Next).run S.P w = .ok (.enter g ar) w by simp [hee]]
    rw [Oper.upon_enter]
    refine hc.mono fun e w' hr => ?_
    obtain ⟨v', μ', rfl, h1, h2, h3⟩ := hr
    exact hK μ' v' w' h1 h2 h3
  | invoke r m => cases h
 | _ => rw [hop] at h; cases h
end
end Go.Proofs.Ythjkodbinkiifaa.Am
namespace Go.Proofs.Ythjkodbinkiifaa.Am
open Go Go.RowKit

/-! ### Places that are laid ahead may be filled sooner -/
def ovl (F : Nat → AObj) (hol : Nat → Bool) (H : AHeap) : AHeap := H.mapIdx fun i o => if hol i then F i else o
def Hol (hol : Nat → Bool) (H : AHeap) : Prop := ∀ i, hol i = true → H[i]? = some .hole

section
variable {F : Nat → AObj} {hol : Nat → Bool} {H H' : AHeap}

theorem ovl_len : (ovl F hol H).length = H.length := by simp [ovl]
theorem ovl_get? (id : Nat) : (ovl F hol H)[id]? = (H[id]?).map fun o => if hol id then F id else o := by simp [ovl]
theorem Hol.lt (h : Hol hol H) {i : Nat} (hi : hol i = true) : i < H.length := (List.getElem?_eq_some_iff.1 (h i hi)).1
theorem Hol.off (h : Hol hol H) {id : Nat} {o : AObj} (ho : H[id]? = some o) (hn : o ≠ .hole) : hol id = false := by
 cases hc : hol id with
 | false => rfl
 | true =>
  have := h id hc
  rw [ho] at this
  cases this
  exact absurd rfl hn
theorem ovl_get (h : Hol hol H) {id : Nat} {o : AObj} (ho : H[id]? = some o) (hn : o ≠ .hole) : (ovl F hol H)[id]? = some o := by
 rw [ovl_get?, ho, h.off ho hn]
 rfl
theorem ovl_append (h : Hol hol H) (l : List AObj) : ovl F hol (H ++ l) = ovl F hol H ++ l := by
 apply List.ext_getElem?
 intro i
 rw [ovl_get?]
 by_cases hi : i < H.length
 ·rw [List.getElem?_append_left hi, List.getElem?_append_left (by rw [ovl_len]; exact hi), ovl_get?]
 ·rw [List.getElem?_append_right (by omega), List.getElem?_append_right (by rw [ovl_len]; omega), ovl_len]
  have : hol i = false := by
   cases hc : hol i with
   | false => rfl
   | true => exact absurd (h.lt hc) hi
  simp [this]
theorem Hol.append (h : Hol hol H) (l : List AObj) : Hol hol (H ++ l) := fun i hi => by rw [List.getElem?_append_left (h.lt hi)]; exact h i hi
theorem ovl_set (h : Hol hol H) {id : Nat} (hid : hol id = false) (x : AObj) : ovl F hol (H.set id x) = (ovl F hol H).set id x := by
 apply List.ext_getElem?
 intro i
 rw [ovl_get?]
 by_cases hi : i = id
 ·subst hi
  rw [List.getElem?_set, List.getElem?_set]
  simp only [if_true, ovl_len, hid]
  by_cases hl : i < H.length <;> simp [hl]
 ·rw [List.getElem?_set_ne (fun e => hi e.symm), List.getElem?_set_ne (fun e => hi e.symm), ovl_get?]
theorem Hol.set (h : Hol hol H) {id : Nat} (hid : hol id = false) (x : AObj) : Hol hol (H.set id x) := fun i hi => by
 rw [List.getElem?_set_ne (fun e => by subst e; rw [hid] at hi; cases hi)]
 exact h i hi

theorem getCells_ovl (h : Hol hol H) {id L off n : Nat} {cs : List Value} (hg : getCells H id L off n = some cs) : getCells (ovl F hol H) id L off n = some cs := by
 obtain ⟨all, e, wr, md, hh, h1, h2, h3, rfl⟩ := getCells_some hg
 unfold getCells
 rw [ovl_get h hh (by intro e; cases e)]
 simp [h1, h2, h3]
theorem setCells_ovl (h : Hol hol H) {prot id L off : Nat} {vs : List Value} (hg : setCells H prot id L off vs = some H') : setCells (ovl F hol H) prot id L off vs = some (ovl F hol H') ∧ Hol hol H' := by
 obtain ⟨cs, e, wr, md, hh, h1, h2, h3, h4, h5, rfl⟩ := setCells_some hg
 have hid := h.off hh (by intro e; cases e)
 refine ⟨?_, h.set hid _⟩
 unfold setCells
 rw [ovl_get h hh (by intro e; cases e), ovl_set h hid]
 simp only [h1, h2, h3, h5, true_and, and_true]
 rw [if_pos (by omega)]
theorem cellsAt_ovl (h : Hol hol H) {s : Nat} {x : Value} {cs : List Value} (hc : cellsAt s x H = some cs) : cellsAt s x (ovl F hol H) = some cs := by
 unfold cellsAt at hc ⊢
 split at hc
 ·exact hc
 ·exact hc
 ·exact getCells_ovl h hc
 ·cases hc
theorem aload_ovl (h : Hol hol H) {P : Program} {t : TypeId} {p v : Value} (hc : aload P t p H = some v) : aload P t p (ovl F hol H) = some v := by
 unfold aload at hc ⊢
 split at hc
 ·split at hc
  ·obtain ⟨cs, h1, rfl⟩ := map_some' hc
   rw [getCells_ovl h h1]; rfl
  ·obtain ⟨cs, h1, rfl⟩ := map_some' hc
   rw [getCells_ovl h h1]; rfl
  ·cases hc
 ·exact hc
 ·cases hc
theorem amapOf_ovl (h : Hol hol H) {x : Value} {es : List (Value × Value)} (hc : amapOf x H = some es) : amapOf x (ovl F hol H) = some es := by
 unfold amapOf at hc ⊢
 split at hc
 ·exact hc
 ·split at hc
  ·rename_i hh
   cases hc
   rw [ovl_get h hh (by intro e; cases e)]
  ·cases hc
 ·cases hc
theorem srcCells_ovl (h : Hol hol H) {P : Program} {s : Nat} {t : TypeId} {x : Value} {r : Nat × List Value} (hc : srcCells P s t x H = some r) : srcCells P s t x (ovl F hol H) = some r := by
 unfold srcCells at hc ⊢
 split at hc
 ·obtain ⟨cs, h1, rfl⟩ := map_some' hc
  rename_i hu
  rw [cellsAt_ovl h h1]; rfl
 ·cases hc

def ClOvl (cl : FuncId → List Value → Nat → AHeap → Option (Value × AHeap)) : Prop :=
 ∀ (F : Nat → AObj) (hol : Nat → Bool) f args prot H v H', cl f args prot H = some (v, H') → Hol hol H → cl f args prot (ovl F hol H) = some (v, ovl F hol H') ∧ Hol hol H'

theorem aconv_ovl (h : Hol hol H) {P : Program} {src dst : TypeId} {x v : Value} (hc : aconv P src dst x H = some v) : aconv P src dst x (ovl F hol H) = some v := by
 unfold aconv at hc ⊢
 split at hc
 ·exact hc
 ·exact hc
 ·exact hc
 ·split at hc
  ·obtain ⟨cs, h1, h2⟩ := bind_some' hc
   rw [cellsAt_ovl h h1]; exact h2
  ·cases hc
 ·cases hc
theorem isVar_ovl (h : Hol hol H) {id L : Nat} (hc : isVar H id L = true) : isVar (ovl F hol H) id L = true := by
 unfold isVar at hc ⊢
 split at hc
 ·rename_i hh
  rw [ovl_get h hh (by intro e; cases e)]; exact hc
 ·cases hc
theorem aslice_ovl (h : Hol hol H) {P : Program} {t : TypeId} {x v : Value} {lo hi mx : Option Value} (hc : aslice P t x lo hi mx H = some v) : aslice P t x lo hi mx (ovl F hol H) = some v := by
 unfold aslice at hc ⊢
 split at hc
 ·exact hc
 ·split at hc
  ·exact hc
  ·exact hc
  ·exact hc
  ·obtain ⟨l, h1, hc⟩ := bind_some' hc
   obtain ⟨hb, h2, hc⟩ := bind_some' hc
   obtain ⟨s, h3, hc⟩ := bind_some' hc
   rw [h1, Option.bind_some, h2, Option.bind_some, h3, Option.bind_some]
   split at hc
   ·rename_i hcond
    rw [if_pos ⟨hcond.1, hcond.2.1, hcond.2.2.1, isVar_ovl h hcond.2.2.2⟩]; exact hc
   ·cases hc
  ·cases hc
theorem alen_ovl (h : Hol hol H) {P : Program} {t : TypeId} {x v : Value} (hc : alen P t x H = some v) : alen P t x (ovl F hol H) = some v := by
 unfold alen at hc ⊢
 split at hc
 ·exact hc
 ·exact hc
 ·exact hc
 ·exact hc
 ·split at hc
  ·rename_i hh
   rw [ovl_get h hh (by intro e; cases e)]; exact hc
  ·cases hc
 ·cases hc
theorem alookup_ovl (h : Hol hol H) {P : Program} {t : TypeId} {x k v : Value} {ok : Bool} (hc : alookup P t x k ok H = some v) : alookup P t x k ok (ovl F hol H) = some v := by
 unfold alookup at hc ⊢
 obtain ⟨r, h1, hc⟩ := bind_some' hc
 obtain ⟨es, h2, hc⟩ := bind_some' hc
 rw [h1, Option.bind_some, amapOf_ovl h h2, Option.bind_some]
 exact hc
theorem amapUpdate_ovl (h : Hol hol H) {P : Program} {prot : Nat} {t : TypeId} {x k v : Value} (hc : amapUpdate P prot t x k v H = some H') : amapUpdate P prot t x k v (ovl F hol H) = some (ovl F hol H') ∧ Hol hol H' := by
 unfold amapUpdate at hc ⊢
 split at hc
 case h_2 => cases hc
 split at hc
 case h_2 => cases hc
 rename_i id _ es hh
 have hid := h.off hh (by intro e; cases e)
 rw [ovl_get h hh (by intro e; cases e)]
 obtain ⟨r, h1, hc⟩ := bind_some' hc
 dsimp only
 rw [h1, Option.bind_some]
 split at hc
 case isFalse => cases hc
 rename_i hcond
 rw [if_pos hcond]
 obtain ⟨u, h2, hc⟩ := bind_some' hc
 obtain ⟨i, h3, hc⟩ := bind_some' hc
 rw [h2, Option.bind_some, h3, Option.bind_some]
 split at hc
 ·split at hc
  ·split at hc
   ·rename_i hs
    cases hc
    rw [ovl_set h hid]
    simp only [*, if_true]
    exact ⟨trivial, h.set hid _⟩
   ·cases hc
  ·cases hc
 ·cases hc
  rw [ovl_set h hid]
  exact ⟨rfl, h.set hid _⟩
theorem amapDelete_ovl (h : Hol hol H) {P : Program} {prot : Nat} {t : TypeId} {x k : Value} (hc : amapDelete P prot t x k H = some H') : amapDelete P prot t x k (ovl F hol H) = some (ovl F hol H') ∧ Hol hol H' := by
 unfold amapDelete at hc ⊢
 split at hc
 case h_2 => cases hc
 split at hc
 case h_2 => cases hc
 rename_i id _ es hh
 have hid := h.off hh (by intro e; cases e)
 rw [ovl_get h hh (by intro e; cases e)]
 obtain ⟨r, h1, hc⟩ := bind_some' hc
 dsimp only
 rw [h1, Option.bind_some]
 split at hc
 case isFalse => cases hc
 rename_i hcond
 rw [if_pos hcond]
 obtain ⟨u, h2, hc⟩ := bind_some' hc
 obtain ⟨i, h3, hc⟩ := bind_some' hc
 rw [h2, Option.bind_some, h3, Option.bind_some]
 split at hc
 ·cases hc
  rw [ovl_set h hid]
  exact ⟨rfl, h.set hid _⟩
 ·cases hc
  exact ⟨rfl, h⟩
theorem anext_ovl (h : Hol hol H) {prot : Nat} {x v : Value} (hc : anext prot x H = some (v, H')) : anext prot x (ovl F hol H) = some (v, ovl F hol H') ∧ Hol hol H' := by
 unfold anext at hc ⊢
 split at hc
 case h_2 => cases hc
 split at hc
 case h_2 => cases hc
 rename_i id _ s pos hh
 have hid := h.off hh (by intro e; cases e)
 rw [ovl_get h hh (by intro e; cases e)]
 dsimp only
 split at hc
 case isFalse => cases hc
 rename_i hp
 rw [if_pos hp]
 split at hc
 ·rename_i hlt
  cases hc
  rw [if_pos hlt, ovl_set h hid]
  exact ⟨rfl, h.set hid _⟩
 ·rename_i hlt
  cases hc
  rw [if_neg hlt]
  exact ⟨rfl, h⟩
theorem aappend_ovl (h : Hol hol H) {P : Program} {prot : Nat} {room : Bool} {t t' : TypeId} {x y v : Value} (hc : aappend P prot room t t' x y H = some (v, H')) :
  aappend P prot room t t' x y (ovl F hol H) = some (v, ovl F hol H') ∧ Hol hol H' := by
 unfold aappend at hc ⊢
 obtain ⟨e, h1, hc⟩ := bind_some' hc
 obtain ⟨s, h2, hc⟩ := bind_some' hc
 obtain ⟨b, h3, hc⟩ := bind_some' hc
 obtain ⟨z, h4, hc⟩ := bind_some' hc
 rw [h1, Option.bind_some, h2, Option.bind_some, h3, Option.bind_some, h4, Option.bind_some]
 split at hc
 case isFalse => cases hc
 rename_i c0
 rw [if_pos c0]
 obtain ⟨r, h5, hc⟩ := bind_some' hc
 rw [srcCells_ovl h h5, Option.bind_some]
 dsimp only at hc ⊢
 split at hc
 case isFalse => cases hc
 rename_i c1
 rw [if_pos c1]
 split at hc
 ·split at hc
  ·rename_i hm
   cases hc; rw [if_pos hm]; exact ⟨rfl, h⟩
  ·rename_i hm
   rw [if_neg hm]
   split at hc
   ·rename_i hb
    cases hc
    rw [if_pos hb]
    simp only [newObj, sliceTo, ovl_len]
    exact ⟨by rw [ovl_append h], h.append _⟩
   ·cases hc
 ·split at hc
  ·rename_i hm
   cases hc; rw [if_pos hm]; exact ⟨rfl, h⟩
  ·rename_i hm
   rw [if_neg hm]
   split at hc
   ·rename_i hb
    cases hc
    rw [if_pos hb]
    simp only [newObj, sliceTo, ovl_len]
    exact ⟨by rw [ovl_append h], h.append _⟩
   ·cases hc
 ·split at hc
  ·rename_i hm
   rw [if_pos hm]
   split at hc
   ·rename_i hn
    cases hc; rw [if_pos hn]; exact ⟨rfl, h⟩
   ·cases hc
  ·rename_i hm
   rw [if_neg hm]
   split at hc
   ·rename_i hr
    rw [if_pos hr]
    split at hc
    ·cases hc
    ·rename_i hro
     rw [if_neg hro]
     obtain ⟨H2, g1, g2⟩ := map_some' hc
     cases g2
     obtain ⟨k1, k2⟩ := setCells_ovl (F := F) h g1
     rw [k1]
     exact ⟨rfl, k2⟩
   ·rename_i hr
    rw [if_neg hr]
    split at hc
    ·rename_i old e' wr md hh
     have hid := h.off hh (by intro e; cases e)
     rw [ovl_get h hh (by intro e; cases e)]
     dsimp only
     split at hc
     ·rename_i hcond
      cases hc
      rw [if_pos hcond, ovl_set h hid]
      exact ⟨rfl, h.set hid _⟩
     ·cases hc
    ·cases hc
 ·cases hc
theorem acopy_ovl (h : Hol hol H) {P : Program} {prot : Nat} {t t' : TypeId} {x y v : Value} (hc : acopy P prot t t' x y H = some (v, H')) :
  acopy P prot t t' x y (ovl F hol H) = some (v, ovl F hol H') ∧ Hol hol H' := by
 unfold acopy at hc ⊢
 obtain ⟨e, h1, hc⟩ := bind_some' hc
 obtain ⟨s, h2, hc⟩ := bind_some' hc
 obtain ⟨r, h3, hc⟩ := bind_some' hc
 rw [h1, Option.bind_some, h2, Option.bind_some, srcCells_ovl h h3, Option.bind_some]
 split at hc
 ·cases hc; exact ⟨rfl, h⟩
 ·cases hc; exact ⟨rfl, h⟩
 ·split at hc
  ·rename_i hl
   obtain ⟨H2, g1, g2⟩ := map_some' hc
   cases g2
   obtain ⟨k1, k2⟩ := setCells_ovl (F := F) h g1
   rw [if_pos hl, k1]
   exact ⟨rfl, k2⟩
  ·cases hc
 ·cases hc

theorem aop_ovl {S : Sys} (hk : ClOvl S.cl) (hH : Hol hol H) {o : Op} {fr : Frame} {v : Value} (h : aop S o fr H = some (v, H')) : aop S o fr (ovl F hol H) = some (v, ovl F hol H') ∧ Hol hol H' := by
 have q : ∀ {r : Option Value}, quiet H r = some (v, H') → quiet (ovl F hol H) r = some (v, ovl F hol H') ∧ Hol hol H' := fun hq => by
  obtain ⟨h1, rfl⟩ := quiet_some hq
  rw [h1]; exact ⟨rfl, hH⟩
 have q2 : ∀ {r r' : Option Value}, quiet H r = some (v, H') → (r = some v → r' = some v) → quiet (ovl F hol H) r' = some (v, ovl F hol H') ∧ Hol hol H' := fun hq hr => by
  obtain ⟨h1, rfl⟩ := quiet_some hq
  rw [hr h1]; exact ⟨rfl, hH⟩
 have ef : ∀ {r r' : Option AHeap}, effect r = some (v, H') → (r = some H' → r' = some (ovl F hol H') ∧ Hol hol H') → effect r' = some (v, ovl F hol H') ∧ Hol hol H' := fun hq hr => by
  obtain ⟨h1, rfl⟩ := effect_some hq
  obtain ⟨h2, h3⟩ := hr h1
  rw [h2]; exact ⟨rfl, h3⟩
 have app : ∀ l, Hol hol (H ++ l) := fun l => hH.append l
 cases o with
 | move x => cases h; exact ⟨rfl, hH⟩
 | assign x => cases h; exact ⟨rfl, hH⟩
 | pick c x y =>
  simp only [aop] at h ⊢
  split at h
  ·cases h; exact ⟨rfl, hH⟩
  ·cases h
 | alloc e =>
  simp only [aop, aalloc] at h ⊢
  obtain ⟨z, hz, h⟩ := bind_some' h
  split at h
  ·rename_i hc
   cases h
   rw [hz]
   simp only [Option.bind_some, hc, if_true, newVarObj, ptrTo, ovl_len]
   exact ⟨by rw [ovl_append hH], app _⟩
  ·cases h
 | box e x =>
  simp only [aop, abox] at h ⊢
  split at h
  ·rename_i hc
   cases h
   simp only [hc, if_true, newVarObj, ptrTo, ovl_len]
   exact ⟨by rw [ovl_append hH], app _⟩
  ·cases h
 | build t ps => exact q h
 | buildSlice t n ps =>
  simp only [aop, abuildSlice] at h ⊢
  obtain ⟨e, he, h⟩ := bind_some' h
  obtain ⟨s, hs, h⟩ := bind_some' h
  rw [he, Option.bind_some, hs, Option.bind_some]
  split at h
  ·rename_i h0
   rw [if_pos h0]
   split at h
   ·rename_i hp; cases h; rw [if_pos hp]; exact ⟨rfl, hH⟩
   ·cases h
  ·rename_i h0
   rw [if_neg h0]
   split at h
   ·cases h
   ·rename_i h1
    rw [if_neg h1]
    obtain ⟨z, hz, h⟩ := bind_some' h
    rw [hz, Option.bind_some]
    split at h
    ·rename_i hc
     rw [if_pos hc]
     obtain ⟨cs, hcs, h⟩ := map_some' h
     cases h
     rw [hcs]
     simp only [Option.map_some, newObj, sliceTo, ovl_len]
     exact ⟨by rw [ovl_append hH], app _⟩
    ·cases h
 | load t x => exact q2 h fun hr => aload_ovl hH hr
 | store t x y =>
  refine ef h fun h1 => ?_
  unfold astore at h1 ⊢
  split at h1
  ·split at h1
   ·split at h1
    ·rename_i hl
     rw [if_pos hl]
     exact setCells_ovl hH h1
    ·cases h1
   ·cases h1
  ·cases h1
 | nilCheck x => exact q h
 | binOp op t x y yt => exact q h
 | unOp op t x => exact q h
 | convert src dst x => exact q2 h fun hr => aconv_ovl hH hr
 | makeFunc fn first cap =>
  cases fn with
  | func f =>
   simp only [aop] at h ⊢
   cases h; exact ⟨rfl, hH⟩
  | _ => cases h
 | makeMap t r =>
  cases r with
  | none =>
   simp only [aop, amakeMap] at h ⊢
   cases h
   simp only [ovl_len]
   exact ⟨by rw [ovl_append hH], app _⟩
  | some r => cases h
 | makeSlice t l c =>
  simp only [aop, amakeSlice] at h ⊢
  split at h
  ·obtain ⟨e, h1, h⟩ := bind_some' h
   obtain ⟨s, h2, h⟩ := bind_some' h
   obtain ⟨b, h3, h⟩ := bind_some' h
   obtain ⟨z, h4, h⟩ := bind_some' h
   rw [h1, Option.bind_some, h2, Option.bind_some, h3, Option.bind_some, h4, Option.bind_some]
   split at h
   ·rename_i hc
    cases h
    rw [if_pos hc]
    simp only [newObj, sliceTo, ovl_len]
    exact ⟨by rw [ovl_append hH], app _⟩
   ·cases h
  ·cases h
 | slice t x lo hi mx => exact q2 h fun hr => aslice_ovl hH hr
 | fieldAddr t x f => exact q h
 | field t x f => exact q h
 | indexAddr t x i => exact q h
 | index t x i => exact q h
 | lookup t x i ok => exact q2 h fun hr => alookup_ovl hH hr
 | mapUpdate t m k x => exact ef h fun hr => amapUpdate_ovl hH hr
 | insert t m k x => exact ef h fun hr => amapUpdate_ovl hH hr
 | range t x =>
  simp only [aop, arange] at h ⊢
  split at h
  ·cases h
   simp only [ovl_len]
   exact ⟨by rw [ovl_append hH], app _⟩
  ·cases h
 | next it isS =>
  cases isS with
  | true => exact anext_ovl hH h
  | false => cases h
 | extract t i => exact q h
 | call c =>
  obtain ⟨callee, args, ts⟩ := c
  cases callee with
  | builtin b =>
   simp only [aop] at h ⊢
   unfold abuiltin at h ⊢
   split at h
   ·exact q2 h fun hr => alen_ovl hH hr
   ·exact aappend_ovl hH h
   ·exact acopy_ovl hH h
   ·exact q h
   ·exact q h
   ·exact ef h fun hr => amapDelete_ovl hH hr
   ·cases h
  | value f =>
   simp only [aop] at h ⊢
   split at h
   case h_2 => cases h
   unfold acall at h ⊢
   split at h
   case h_2 => cases h
   split at h
   ·split at h
    ·rename_i hc
     rw [if_pos hc]
     exact q h
    ·cases h
   ·exact hk F hol _ _ _ _ _ _ h hH
  | invoke r m => cases h
 | _ => cases h

theorem stepWith_ovl {f : Op → Frame → AHeap → Option (Value × AHeap)} {nt : Nat} {ops : Array Oper} {o : Oper} (hf : ∀ fr H v H', f o.op fr H = some (v, H') → Hol hol H → f o.op fr (ovl F hol H) = some (v, ovl F hol H') ∧ Hol hol H')
  {fr fr' : Frame} (hH : Hol hol H) (h : stepWith f nt ops o fr H ret2 = some (fr', H')) : stepWith f nt ops o fr (ovl F hol H) ret2 = some (fr', ovl F hol H') ∧ Hol hol H' := by
 unfold stepWith at h ⊢
 split at h
 ·obtain ⟨⟨v, H1⟩, h1, h2⟩ := bind_some' h
  simp only [ret2, Option.some.injEq, Prod.mk.injEq] at h2
  obtain ⟨rfl, rfl⟩ := h2
  obtain ⟨g1, g2⟩ := hf _ _ _ _ h1 hH
  rw [g1]
  exact ⟨rfl, g2⟩
 ·rename_i j want hg
  unfold onGuard at h ⊢
  split at h
  ·rename_i b hb
   cases hbw : (b == want) with
   | true =>
    rw [hbw] at h
    obtain ⟨⟨v, H1⟩, h1, h2⟩ := bind_some' h
    simp only [ret2, Option.some.injEq, Prod.mk.injEq] at h2
    obtain ⟨rfl, rfl⟩ := h2
    obtain ⟨g1, g2⟩ := hf _ _ _ _ h1 hH
    simp only [if_true, g1]
    exact ⟨rfl, g2⟩
   | false =>
    rw [hbw] at h
    simp only [Bool.false_eq_true, if_false, Option.bind_some, ret2, Option.some.injEq, Prod.mk.injEq] at h ⊢
    obtain ⟨rfl, rfl⟩ := h
    exact ⟨⟨rfl, rfl⟩, hH⟩
  ·split at h
   ·rename_i hl
    rw [if_pos hl]
    simp only [Bool.false_eq_true, if_false, Option.bind_some, ret2, Option.some.injEq, Prod.mk.injEq] at h ⊢
    obtain ⟨rfl, rfl⟩ := h
    exact ⟨⟨rfl, rfl⟩, hH⟩
   ·cases h
  ·cases h

theorem aopA_ovl {S : Sys} (hk : ClOvl S.cl) {hid : Nat} (hh : hol hid = false) (hH : Hol hol H) {o : Op} {fr : Frame} {v : Value} (h : aopA S hid o fr H = some (v, H')) : aopA S hid o fr (ovl F hol H) = some (v, ovl F hol H') ∧ Hol hol H' := by
 unfold aopA at h ⊢
 split at h
 case isFalse => cases h
 rename_i hfb
 rw [if_pos hfb]
 obtain ⟨⟨v1, H1⟩, h1, h2⟩ := bind_some' h
 obtain ⟨g1, g2⟩ := aop_ovl (F := F) hk hH h1
 rw [g1, Option.bind_some]
 dsimp only at h2 ⊢
 have hn : hol H.length = false := by
  cases hc : hol H.length with
  | false => rfl
  | true => exact absurd (hH.lt hc) (by omega)
 split at h2
 ·rename_i obj h3 h4
  cases h2
  rw [ovl_len, ovl_get?, h3, ovl_get?, h4, hn, hh]
  simp only [Option.map_some, Bool.false_eq_true, if_false]
  rw [ovl_set hH hh]
  exact ⟨rfl, hH.set hh _⟩
 ·rename_i h3
  cases h2
  rw [ovl_len, ovl_get?, h3]
  exact ⟨rfl, g2⟩
 ·cases h2

theorem stepI_ovl {S : Sys} (hk : ClOvl S.cl) {rsv : Bool} {ops : Array Oper} {base i : Nat} (hb : rsv = true → isA (kdAt S true ops i) = true → hol (base + rankA S ops i) = false) {fr fr' : Frame} (hH : Hol hol H)
  (h : stepI S rsv ops base i fr H ret2 = some (fr', H')) : stepI S rsv ops base i fr (ovl F hol H) ret2 = some (fr', ovl F hol H') ∧ Hol hol H' := by
 unfold stepI at h ⊢
 split at h
 ·refine stepWith_ovl (fun fr H v H' hr hH => ?_) hH h
  unfold runnerI at hr ⊢
  split at hr
  ·rename_i hc
   rw [if_pos hc]
   simp only [Bool.and_eq_true] at hc
   exact aopA_ovl hk (hb hc.1 hc.2) hH hr
  ·rename_i hc
   rw [if_neg hc]
   exact aop_ovl hk hH hr
 ·cases h

theorem runI_ovl {S : Sys} (hk : ClOvl S.cl) {rsv : Bool} {ops : Array Oper} {base : Nat} : ∀ (l : List Nat), (∀ i ∈ l, rsv = true → isA (kdAt S true ops i) = true → hol (base + rankA S ops i) = false) → ∀ {H H' : AHeap} {fr fr' : Frame}, Hol hol H →
  runI S rsv ops base l fr H ret2 = some (fr', H') → runI S rsv ops base l fr (ovl F hol H) ret2 = some (fr', ovl F hol H') ∧ Hol hol H'
 | [], _, H, H', fr, fr', hH, h => by
  simp only [runI, ret2, Option.some.injEq, Prod.mk.injEq] at h ⊢
  obtain ⟨rfl, rfl⟩ := h
  exact ⟨⟨rfl, rfl⟩, hH⟩
 | i :: l, hb, H, H', fr, fr', hH, h => by
  obtain ⟨fr1, H1, h1, h2⟩ := runI_cons h
  obtain ⟨g1, g2⟩ := stepI_ovl (F := F) hk (hb i List.mem_cons_self) hH h1
  obtain ⟨k1, k2⟩ := runI_ovl hk l (fun j hj => hb j (List.mem_cons_of_mem _ hj)) g2 h2
  refine ⟨?_, k2⟩
  simp only [runI]
  rw [stepI_bind, g1]
  exact k1

theorem drawRun_ovl {S : Sys} (hk : ClOvl S.cl) {ops : Array Oper} {fr fr' : Frame} (hH : Hol hol H) (h : drawRun S ops fr H ret2 = some (fr', H')) : drawRun S ops fr (ovl F hol H) ret2 = some (fr', ovl F hol H') ∧ Hol hol H' := by
 unfold drawRun at h ⊢
 split at h
 ·rename_i hc
  rw [if_pos hc]
  exact runI_ovl (S := S) hk _ (fun i _ e => by cases e) hH h
 ·rename_i hc
  rw [if_neg hc]
  split at h
  ·rename_i hc1
   rw [if_pos hc1]
   exact runI_ovl (S := drawn S) hk _ (fun i _ e => by cases e) hH h
  rename_i hc1
  rw [if_neg hc1]
  split at h
  ·rename_i hc2
   rw [if_pos hc2, ovl_len]
   have := runI_ovl (S := drawn S) (F := F) (hol := hol) hk (canon (drawn S) ops) (fun i _ _ _ => by
    cases hh : hol (H.length + rankA (drawn S) ops i) with
    | false => rfl
    | true => exact absurd (hH.lt hh) (by omega)) (hH.append _) h
   rw [ovl_append hH] at this
   exact this
  ·rename_i hc2
   have hc2' : ¬ (orderOk (drawn S) true ops (canon (drawn S) ops) = true) := hc2
   rw [if_neg hc2']
   split at h
   ·rename_i hc3
    rw [if_pos hc3]
    obtain ⟨k1, k2⟩ := drawFar_some h
    obtain ⟨g1, g2⟩ := runI_ovl (S := drawn S) (F := F) (hol := hol) hk _ (fun i _ e => by cases e) hH k1
    exact ⟨drawFar_mk g1 k2, g2⟩
   ·cases h

theorem runOps_ovl {S : Sys} (hk : ClOvl S.cl) {ops : Array Oper} : ∀ (l : List Oper) {H H' : AHeap} {fr fr' : Frame}, Hol hol H →
  runOps S ops l fr H ret2 = some (fr', H') → runOps S ops l fr (ovl F hol H) ret2 = some (fr', ovl F hol H') ∧ Hol hol H'
 | [], H, H', fr, fr', hH, h => by
  simp only [runOps, ret2, Option.some.injEq, Prod.mk.injEq] at h ⊢
  obtain ⟨rfl, rfl⟩ := h
  exact ⟨⟨rfl, rfl⟩, hH⟩
 | o :: l, H, H', fr, fr', hH, h => by
  obtain ⟨fr1, H1, h1, h2⟩ := runOps_cons h
  obtain ⟨g1, g2⟩ := stepWith_ovl (F := F) (f := aop S) (fun fr H v H' hr hH => aop_ovl hk hH hr) hH h1
  obtain ⟨k1, k2⟩ := runOps_ovl hk l g2 h2
  refine ⟨?_, k2⟩
  simp only [runOps]
  rw [stepOp_bind]
  unfold stepOp
  rw [g1]
  exact k1

theorem exec_ovl {S : Sys} (hk : ClOvl S.cl) (n : Nat) (hlp : S.lp = loopN n) : ∀ (c : ACode) {H : AHeap} {fr : Frame} {e : Ex} {fr' : Frame} {H' : AHeap}, Hol hol H → exec S c R3 fr H ret3 = some (e, fr', H') →
  exec S c R3 fr (ovl F hol H) ret3 = some (e, fr', ovl F hol H') ∧ Hol hol H' := by
 intro c
 have packed : ∀ (c : ACode) (lv : List Nat) (f : Ex → Ex) (H : AHeap) (fr : Frame) (r : LO), (∀ {H : AHeap} {fr : Frame} {e : Ex} {fr' : Frame} {H' : AHeap}, Hol hol H → exec S c R3 fr H ret3 = some (e, fr', H') →
   exec S c R3 fr (ovl F hol H) ret3 = some (e, fr', ovl F hol H') ∧ Hol hol H') → Hol hol H → exec S c LO fr H (fun e fr H => some (f e, pack lv fr, H)) = some r →
   exec S c LO fr (ovl F hol H) (fun e fr H => some (f e, pack lv fr, H)) = some (r.1, r.2.1, ovl F hol r.2.2) ∧ Hol hol r.2.2 := by
  intro c lv f H fr r ih hH h
  obtain ⟨e1, fr1, H1, h3, rfl⟩ := exec_packed h
  obtain ⟨g1, g2⟩ := ih hH h3
  rw [exec_bind, g1]
  exact ⟨rfl, g2⟩
 induction c with
 | skip =>
  intro H fr e fr' H' hH h
  simp only [exec, ret3, Option.some.injEq, Prod.mk.injEq] at h ⊢
  obtain ⟨rfl, rfl, rfl⟩ := h
  exact ⟨⟨rfl, rfl, rfl⟩, hH⟩
 | region id ops draw =>
  intro H fr e fr' H' hH h
  simp only [exec] at h ⊢
  split at h
  ·rename_i hd
   rw [if_pos hd]
   rw [drawRun_bind] at h ⊢
   obtain ⟨⟨fr1, H1⟩, h1, h2⟩ := bind_some' h
   simp only [ret3, Option.some.injEq, Prod.mk.injEq] at h2
   obtain ⟨rfl, rfl, rfl⟩ := h2
   obtain ⟨g1, g2⟩ := drawRun_ovl (F := F) hk hH h1
   rw [g1]
   exact ⟨rfl, g2⟩
  ·rename_i hd
   rw [if_neg hd]
   rw [runOps_bind] at h ⊢
   obtain ⟨⟨fr1, H1⟩, h1, h2⟩ := bind_some' h
   simp only [ret3, Option.some.injEq, Prod.mk.injEq] at h2
   obtain ⟨rfl, rfl, rfl⟩ := h2
   obtain ⟨g1, g2⟩ := runOps_ovl (F := F) hk _ hH h1
   rw [g1]
   exact ⟨rfl, g2⟩
 | seq a b iha ihb =>
  intro H fr e fr' H' hH h
  simp only [exec] at h ⊢
  rw [exec_bind] at h ⊢
  obtain ⟨⟨e1, fr1, H1⟩, h1, h2⟩ := bind_some' h
  obtain ⟨g1, g2⟩ := iha hH h1
  rw [g1, Option.bind_some]
  cases e1 with
  | normal => exact ihb g2 h2
  | exit k =>
   simp only [ret3, Option.some.injEq, Prod.mk.injEq] at h2 ⊢
   obtain ⟨rfl, rfl, rfl⟩ := h2
   exact ⟨⟨rfl, rfl, rfl⟩, g2⟩
  | ret =>
   simp only [ret3, Option.some.injEq, Prod.mk.injEq] at h2 ⊢
   obtain ⟨rfl, rfl, rfl⟩ := h2
   exact ⟨⟨rfl, rfl, rfl⟩, g2⟩
 | cond c a b lv iha ihb =>
  intro H fr e fr' H' hH h
  simp only [exec] at h ⊢
  unfold onBool at h ⊢
  split at h
  ·rename_i t _
   obtain ⟨r, h1, h2⟩ := bind_some' h
   simp only [ret3, Option.some.injEq, Prod.mk.injEq] at h2
   obtain ⟨rfl, rfl, rfl⟩ := h2
   cases t with
   | true =>
    simp only [if_true] at h1 ⊢
    obtain ⟨g1, g2⟩ := packed a lv id H fr r iha hH h1
    have g1' : exec S a LO fr (ovl F hol H) (fun e fr H => some (e, pack lv fr, H)) = some (r.1, r.2.1, ovl F hol r.2.2) := g1
    rw [g1']
    exact ⟨rfl, g2⟩
   | false =>
    simp only [Bool.false_eq_true, if_false] at h1 ⊢
    obtain ⟨g1, g2⟩ := packed b lv id H fr r ihb hH h1
    have g1' : exec S b LO fr (ovl F hol H) (fun e fr H => some (e, pack lv fr, H)) = some (r.1, r.2.1, ovl F hol r.2.2) := g1
    rw [g1']
    exact ⟨rfl, g2⟩
  ·cases h
 | block id b lv ih =>
  intro H fr e fr' H' hH h
  simp only [exec] at h ⊢
  obtain ⟨r, h1, h2⟩ := bind_some' h
  simp only [ret3, Option.some.injEq, Prod.mk.injEq] at h2
  obtain ⟨rfl, rfl, rfl⟩ := h2
  obtain ⟨g1, g2⟩ := packed b lv (inBlock id) H fr r ih hH h1
  rw [g1]
  exact ⟨rfl, g2⟩
 | loop b lv lo ih =>
  intro H fr e fr' H' hH h
  simp only [exec, hlp] at h ⊢
  obtain ⟨r, h1, h2⟩ := bind_some' h
  simp only [ret3, Option.some.injEq, Prod.mk.injEq] at h2
  obtain ⟨rfl, rfl, rfl⟩ := h2
  have key : ∀ (k : Nat) (vs : List Value) (H0 : AHeap) (r : LO), Hol hol H0 → loopN k (fun s => exec S b (LS ⊕ LO) (slotsOf lv s.1) s.2 fun e fr' H' =>
    match e with
    | .normal => some (.inl (pack lv fr', H'))
    | .exit n => some (.inr (.exit n, pack lo fr', H'))
    | .ret => some (.inr (.ret, pack lo fr', H'))) (vs, H0) = some r →
    loopN k (fun s => exec S b (LS ⊕ LO) (slotsOf lv s.1) s.2 fun e fr' H' =>
    match e with
    | .normal => some (.inl (pack lv fr', H'))
    | .exit n => some (.inr (.exit n, pack lo fr', H'))
    | .ret => some (.inr (.ret, pack lo fr', H'))) (vs, ovl F hol H0) = some (r.1, r.2.1, ovl F hol r.2.2) ∧ Hol hol r.2.2 := by
   intro k
   induction k with
   | zero => intro vs H0 r _ hr; simp [loopN] at hr
   | succ k ihk =>
    intro vs H0 r hH0 hr
    simp only [loopN] at hr ⊢
    obtain ⟨x, hx, hr⟩ := bind_some' hr
    rw [exec_bind] at hx ⊢
    obtain ⟨⟨e1, fr1, H1⟩, h3, h4⟩ := bind_some' hx
    obtain ⟨g1, g2⟩ := ih hH0 h3
    rw [g1, Option.bind_some]
    cases e1 with
    | normal =>
     simp only [Option.some.injEq] at h4
     subst h4
     exact ihk _ _ r g2 hr
    | exit j =>
     simp only [Option.some.injEq] at h4
     subst h4
     simp only [Option.some.injEq] at hr
     subst hr
     exact ⟨rfl, g2⟩
    | ret =>
     simp only [Option.some.injEq] at h4
     subst h4
     simp only [Option.some.injEq] at hr
     subst hr
     exact ⟨rfl, g2⟩
  obtain ⟨g1, g2⟩ := key n (pack lv fr) H r hH h1
  exact ⟨(congrArg (fun x => Option.bind x _) g1).trans rfl, g2⟩
 | exit k =>
  intro H fr e fr' H' hH h
  simp only [exec, ret3, Option.some.injEq, Prod.mk.injEq] at h ⊢
  obtain ⟨rfl, rfl, rfl⟩ := h
  exact ⟨⟨rfl, rfl, rfl⟩, hH⟩
 | scope b ih => intro H fr e fr' H' hH h; exact ih hH h
 | label l =>
  intro H fr e fr' H' hH h
  simp only [exec, ret3, Option.some.injEq, Prod.mk.injEq] at h ⊢
  obtain ⟨rfl, rfl, rfl⟩ := h
  exact ⟨⟨rfl, rfl, rfl⟩, hH⟩
 | ret =>
  intro H fr e fr' H' hH h
  simp only [exec, ret3, Option.some.injEq, Prod.mk.injEq] at h ⊢
  obtain ⟨rfl, rfl, rfl⟩ := h
  exact ⟨⟨rfl, rfl, rfl⟩, hH⟩
 | other c => intro H fr e fr' H' _ h; simp [exec] at h

theorem keepAll_ovl (hH : Hol hol H) : ∀ (vs : List Value) (acc : List AObj), keepAll H.length (ovl F hol H') vs acc = keepAll H.length H' vs acc
 | [], acc => rfl
 | v :: vs, acc => by
  simp only [keepAll]
  have h1 : keep1 H.length (ovl F hol H') v acc = keep1 H.length H' v acc := by
   unfold keep1
   split
   ·split
    ·rfl
    ·rename_i id _ _ _ _ hid
     have : hol id = false := by
      cases hc : hol id with
      | false => rfl
      | true => exact absurd (hH.lt hc) hid
     rw [ovl_get?, this]
     simp
   ·rfl
   ·rfl
  rw [h1]
  congr 1
  funext r
  rw [keepAll_ovl hH vs r.2]

theorem gc_ovl (hH : Hol hol H) {vs : List Value} (hH' : Hol hol H') : (gc (ovl F hol H) vs (ovl F hol H')) = ((gc H vs H').1, ovl F hol (gc H vs H').2) ∧ Hol hol (gc H vs H').2 := by
 unfold gc
 simp only [gcHeap]
 rw [ovl_len, keepAll_ovl hH]
 split
 ·split
  ·simp only
   rw [ovl_append hH]
   exact ⟨rfl, hH.append _⟩
  ·exact ⟨rfl, hH'⟩
 ·exact ⟨rfl, hH'⟩

theorem aresults_ovl {P : Program} {fr : Frame} (hH : Hol hol H) : ∀ (rs : List ResultVar) {vs : List Value}, aresults P fr H rs = some vs → aresults P fr (ovl F hol H) rs = some vs
 | [], vs, h => h
 | r :: rs, vs, h => by
  simp only [aresults] at h ⊢
  obtain ⟨v, h1, h2⟩ := bind_some' h
  obtain ⟨vs2, h3, rfl⟩ := map_some' h2
  have : aresult P fr (ovl F hol H) r = some v := by
   cases r with
   | tmp t => exact h1
   | cell x t => exact aload_ovl hH h1
  rw [this, Option.bind_some, aresults_ovl hH rs h3]
  rfl

theorem callWith_ovl {C : Cfg} {cl : FuncId → List Value → Nat → AHeap → Option (Value × AHeap)} {n : Nat} (hk : ClOvl cl) : ClOvl (callWith C cl (loopN n)) := by
 intro F hol f args prot H v H' h hH
 unfold callWith at h ⊢
 split at h
 case h_1 => cases h
 rename_i fn hfn
 split at h
 case h_1 =>
  split at h
  ·rename_i hemp
   cases h
   rw [if_pos hemp]
   exact ⟨rfl, hH⟩
  ·cases h
 unfold callBody at h ⊢
 split at h
 case isFalse => cases h
 rename_i hlen
 rw [if_pos hlen]
 obtain ⟨⟨vs, H1⟩, h1, h2⟩ := map_some' h
 rw [exec_bind] at h1
 obtain ⟨⟨e, fr1, H2⟩, h3, h4⟩ := bind_some' h1
 obtain ⟨g1, g2⟩ := exec_ovl (F := F) (hol := hol) (S := { P := C.P, ext := C.ext, cl := cl, lp := loopN n, nt := fn.nt, prot := if fn.muts then prot else H.length, mt := mtOf C, room := true }) hk n rfl fn.body hH h3
 rw [exec_bind, ovl_len, g1, Option.bind_some]
 have fin : ∀ {x : Option (List Value × AHeap)}, (aresults C.P fr1 H2 fn.results).map (fun vs => (vs, H2)) = some (vs, H1) → x = (aresults C.P fr1 (ovl F hol H2) fn.results).map (fun vs => (vs, ovl F hol H2)) →
   x.map (fun r => if fn.muts then (tupled r.1, r.2) else gc (ovl F hol H) r.1 r.2) = some (v, ovl F hol H') ∧ Hol hol H' := by
  intro x hm hx
  obtain ⟨vs0, hv0, hv1⟩ := map_some' hm
  simp only [Prod.mk.injEq] at hv1
  obtain ⟨rfl, rfl⟩ := hv1
  rw [hx, aresults_ovl g2 _ hv0]
  simp only [Option.map_some]
  cases hmut : fn.muts with
  | true =>
   rw [hmut] at h2
   simp only [if_true, Prod.mk.injEq] at h2 ⊢
   obtain ⟨rfl, rfl⟩ := h2
   exact ⟨rfl, g2⟩
  | false =>
   rw [hmut] at h2
   simp only [Bool.false_eq_true, if_false] at h2 ⊢
   obtain ⟨k1, k2⟩ := gc_ovl (F := F) (vs := vs0) hH g2
   rw [k1, h2]
   rw [h2] at k2
   exact ⟨rfl, k2⟩
 cases e with
 | normal => exact fin h4 rfl
 | exit k => cases h4
 | ret => exact fin h4 rfl
end
end Go.Proofs.Ythjkodbinkiifaa.Am
namespace Go.Proofs.Ythjkodbinkiifaa.Am
open Go Go.RowKit

/-! ### A heap that has grown -/
def ObjLe (x : Option AObj) : AObj → Prop
 | .cells cs e wr md => ∃ ext, x = some (.cells (cs ++ ext) e wr md) ∧ (md.isRow = false → ext = [])
 | .hole => True
 | .map es => x = some (.map es)
 | .iter s p => x = some (.iter s p)
def HLe (H H' : AHeap) : Prop := H.length ≤ H'.length ∧ ∀ (id : Nat) (o : AObj), H[id]? = some o → ObjLe H'[id]? o

theorem HLe.refl (H : AHeap) : HLe H H := ⟨Nat.le_refl _, fun id o ho => by
 cases o with
 | cells cs e wr md => exact ⟨[], by simpa using ho, fun _ => rfl⟩
 | hole => trivial
 | map es => exact ho
 | iter s p => exact ho⟩
theorem HLe.trans {a b c : AHeap} (h : HLe a b) (k : HLe b c) : HLe a c := ⟨Nat.le_trans h.1 k.1, fun id o ho => by
 have h1 := h.2 id o ho
 cases o with
 | cells cs e wr md =>
  obtain ⟨x, h2, h3⟩ := h1
  obtain ⟨y, h4, h5⟩ := k.2 id _ h2
  exact ⟨x ++ y, by rw [h4, List.append_assoc], fun hm => by rw [h3 hm, h5 hm]; rfl⟩
 | hole => trivial
 | map es => exact k.2 id _ h1
 | iter s p => exact k.2 id _ h1⟩
theorem HLe.of_get {a b : AHeap} (hl : a.length ≤ b.length) (h : ∀ (id : Nat) (o : AObj), a[id]? = some o → o ≠ .hole → b[id]? = some o) : HLe a b := ⟨hl, fun id o ho => by
 cases o with
 | cells cs e wr md => exact ⟨[], by rw [List.append_nil]; exact h id _ ho (by intro h; cases h), fun _ => rfl⟩
 | hole => trivial
 | map es => exact h id _ ho (by intro h; cases h)
 | iter s p => exact h id _ ho (by intro h; cases h)⟩
theorem HLe.append (H l : AHeap) : HLe H (H ++ l) := HLe.of_get (by simp) fun id o ho _ => by rw [List.getElem?_append_left (List.getElem?_eq_some_iff.1 ho).1]; exact ho
theorem HLe.keeps {H H' : AHeap} (h : Keeps H.length H H') : HLe H H' := HLe.of_get h.1 fun id o ho _ => by rw [h.2 id (List.getElem?_eq_some_iff.1 ho).1]; exact ho
theorem HLe.fill {H : AHeap} {id : Nat} (h : H[id]? = some .hole) (o : AObj) : HLe H (H.set id o) := HLe.of_get (by simp) fun i x hx hn => by
 rw [List.getElem?_set_ne]
 ·exact hx
 ·intro e; subst e; rw [h] at hx; cases hx; exact hn rfl
theorem HLe.grow {H : AHeap} {id : Nat} {cs ext : List Value} {e : TypeId} {wr : Nat} {md : OMode} (h : H[id]? = some (.cells cs e wr md)) (hm : md.isRow = true) : HLe H (H.set id (.cells (cs ++ ext) e wr md)) := by
 refine ⟨by simp, fun i o ho => ?_⟩
 by_cases hi : i = id
 ·subst hi
  rw [h] at ho; cases ho
  exact ⟨ext, by rw [List.getElem?_set_self (List.getElem?_eq_some_iff.1 h).1], fun hf => by rw [hm] at hf; cases hf⟩
 ·have := (HLe.refl H).2 i o ho
  rw [← List.getElem?_set_ne (l := H) (a := .cells (cs ++ ext) e wr md) (fun e => hi e.symm)] at this
  exact this

section
variable {P : Program} {H H1 : AHeap}

/-! ### What is read later is what was read -/
theorem getCells_up (hl : HLe H H1) {id L off n : Nat} {cs : List Value} (h : getCells H id L off n = some cs) : getCells H1 id L off n = some cs := by
 obtain ⟨all, e, wr, md, hh, h1, h2, h3, rfl⟩ := getCells_some h
 obtain ⟨ext, hh1, _⟩ := hl.2 id _ hh
 unfold getCells
 rw [hh1]
 simp only [List.length_append]
 rw [if_pos ⟨h1, by omega, h3⟩]
 congr 1
 rw [List.drop_append_of_le_length (by omega), List.take_append_of_le_length (by simp; omega)]
theorem cellsAt_up (hl : HLe H H1) {s : Nat} {x : Value} {cs : List Value} (hc : cellsAt s x H = some cs) : cellsAt s x H1 = some cs := by
 unfold cellsAt at hc ⊢
 split at hc
 ·exact hc
 ·exact hc
 ·exact getCells_up hl hc
 ·cases hc
theorem aload_up (hl : HLe H H1) {t : TypeId} {p v : Value} (hc : aload P t p H = some v) : aload P t p H1 = some v := by
 unfold aload at hc ⊢
 split at hc
 ·split at hc
  ·obtain ⟨cs, h1, rfl⟩ := map_some' hc
   rw [getCells_up hl h1]; rfl
  ·obtain ⟨cs, h1, rfl⟩ := map_some' hc
   rw [getCells_up hl h1]; rfl
  ·cases hc
 ·exact hc
 ·cases hc
theorem amapOf_up (hl : HLe H H1) {x : Value} {es : List (Value × Value)} (hc : amapOf x H = some es) : amapOf x H1 = some es := by
 unfold amapOf at hc ⊢
 split at hc
 ·exact hc
 ·split at hc
  ·rename_i hh
   cases hc
   have := hl.2 _ _ hh
   simp only [ObjLe] at this
   rw [this]
  ·cases hc
 ·cases hc
theorem aconv_up (hl : HLe H H1) {src dst : TypeId} {x v : Value} (hc : aconv P src dst x H = some v) : aconv P src dst x H1 = some v := by
 unfold aconv at hc ⊢
 split at hc
 ·exact hc
 ·exact hc
 ·exact hc
 ·split at hc
  ·obtain ⟨cs, h1, h2⟩ := bind_some' hc
   rw [cellsAt_up hl h1]
   exact h2
  ·cases hc
 ·cases hc
theorem isVar_up (hl : HLe H H1) {id L : Nat} (hc : isVar H id L = true) : isVar H1 id L = true := by
 unfold isVar at hc ⊢
 split at hc
 ·rename_i hh
  obtain ⟨ext, hh1, hx⟩ := hl.2 _ _ hh
  rw [hx rfl, List.append_nil] at hh1
  rw [hh1]
  exact hc
 ·cases hc
theorem aslice_up (hl : HLe H H1) {t : TypeId} {x v : Value} {lo hi mx : Option Value} (hc : aslice P t x lo hi mx H = some v) : aslice P t x lo hi mx H1 = some v := by
 unfold aslice at hc ⊢
 split at hc
 ·exact hc
 ·split at hc
  ·exact hc
  ·exact hc
  ·exact hc
  ·obtain ⟨l, h1, hc⟩ := bind_some' hc
   obtain ⟨h, h2, hc⟩ := bind_some' hc
   obtain ⟨s, h3, hc⟩ := bind_some' hc
   split at hc
   ·rename_i hcond
    rw [h1, Option.bind_some, h2, Option.bind_some, h3, Option.bind_some, if_pos ⟨hcond.1, hcond.2.1, hcond.2.2.1, isVar_up hl hcond.2.2.2⟩]
    exact hc
   ·cases hc
  ·cases hc
theorem alen_up (hl : HLe H H1) {t : TypeId} {x v : Value} (hc : alen P t x H = some v) : alen P t x H1 = some v := by
 unfold alen at hc ⊢
 split at hc
 ·exact hc
 ·exact hc
 ·exact hc
 ·exact hc
 ·split at hc
  ·rename_i hh
   have := hl.2 _ _ hh
   simp only [ObjLe] at this
   rw [this]
   exact hc
  ·cases hc
 ·cases hc
theorem alookup_up (hl : HLe H H1) {t : TypeId} {x k v : Value} {ok : Bool} (hc : alookup P t x k ok H = some v) : alookup P t x k ok H1 = some v := by
 unfold alookup at hc ⊢
 obtain ⟨r, h1, hc⟩ := bind_some' hc
 obtain ⟨es, h2, hc⟩ := bind_some' hc
 rw [h1, Option.bind_some, amapOf_up hl h2, Option.bind_some]
 exact hc

/-! ### What was read, of a value that was there -/
/-- The names at a value's head are those of objects. -/
def HeadOK (H : AHeap) : Value → Prop
 | .pointer (some ⟨id, _, some L⟩) => ∃ o, H[id]? = some o ∧ o ≠ .hole ∧ ∀ cs e wr md, o = .cells cs e wr md → L ≤ cs.length
 | .slice (some ⟨id, _, some L⟩) _ _ => ∃ o, H[id]? = some o ∧ o ≠ .hole ∧ ∀ cs e wr md, o = .cells cs e wr md → L ≤ cs.length
 | .map (some id) => ∃ o, H[id]? = some o ∧ o ≠ .hole
 | _ => True

theorem Sim.head {w0 w : World} {μ : PMap} (hS : Sim P w0 μ H w) {v v' : Value} (h : VRel μ v v') : HeadOK H v := by
 have key : ∀ id L m, μ id L = some m → ∃ o, H[id]? = some o ∧ o ≠ .hole ∧ ∀ cs e wr md, o = .cells cs e wr md → L ≤ cs.length := fun id L m hm => by
  have h1 := (hS.dom id L m hm).1
  refine ⟨H[id], List.getElem?_eq_getElem h1, fun e => ?_, fun cs e wr md e2 => ?_⟩
  ·exact hS.nohole id L m hm (by rw [List.getElem?_eq_getElem h1, e])
  ·exact hS.ver id L m cs e wr md hm (by rw [List.getElem?_eq_getElem h1, e2])
 cases h with
 | ptr id off L m h => exact key id L m h
 | slice id off L n c c' m h => exact key id L m h
 | map id m h => obtain ⟨o, h1, h2, _⟩ := key id 0 m h; exact ⟨o, h1, h2⟩
 | base v hp => cases v <;> simp [plain0] at hp <;> first | trivial | (simp [HeadOK]; done) | (split at hp <;> simp_all [HeadOK])
 | _ => trivial

theorem getCells_dn (hl : HLe H H1) {id L off n : Nat} {cs : List Value} (hv : ∃ o, H[id]? = some o ∧ o ≠ .hole ∧ ∀ cs e wr md, o = .cells cs e wr md → L ≤ cs.length) (h : getCells H1 id L off n = some cs) : getCells H id L off n = some cs := by
 obtain ⟨o, ho, hn, hL⟩ := hv
 obtain ⟨all, e, wr, md, hh, h1, h2, h3, rfl⟩ := getCells_some h
 have hx := hl.2 id _ ho
 cases o with
 | cells cs e wr md =>
  obtain ⟨ext, hh1, _⟩ := hx
  rw [hh] at hh1; cases hh1
  have hLc := hL _ _ _ _ rfl
  unfold getCells
  rw [ho]
  simp only
  rw [if_pos ⟨h1, hLc, h3⟩, List.drop_append_of_le_length (by omega), List.take_append_of_le_length (by simp; omega)]
 | hole => exact absurd rfl hn
 | map es => simp only [ObjLe] at hx; rw [hh] at hx; cases hx
 | iter s p => simp only [ObjLe] at hx; rw [hh] at hx; cases hx
theorem cellsAt_dn (hl : HLe H H1) {s : Nat} {x : Value} {cs : List Value} (hv : HeadOK H x) (hc : cellsAt s x H1 = some cs) : cellsAt s x H = some cs := by
 unfold cellsAt at hc ⊢
 split at hc
 ·exact hc
 ·exact hc
 ·exact getCells_dn hl hv hc
 ·cases hc
theorem aload_dn (hl : HLe H H1) {t : TypeId} {p v : Value} (hv : HeadOK H p) (hc : aload P t p H1 = some v) : aload P t p H = some v := by
 unfold aload at hc ⊢
 split at hc
 ·split at hc
  ·obtain ⟨cs, h1, rfl⟩ := map_some' hc
   rw [getCells_dn hl hv h1]; rfl
  ·obtain ⟨cs, h1, rfl⟩ := map_some' hc
   rw [getCells_dn hl hv h1]; rfl
  ·cases hc
 ·exact hc
 ·cases hc
theorem amapOf_dn (hl : HLe H H1) {x : Value} {es : List (Value × Value)} (hv : HeadOK H x) (hc : amapOf x H1 = some es) : amapOf x H = some es := by
 unfold amapOf at hc ⊢
 split at hc
 ·exact hc
 ·split at hc
  ·rename_i hh
   cases hc
   obtain ⟨o, ho, hn⟩ := hv
   have hx := hl.2 _ _ ho
   cases o with
   | cells cs e wr md => obtain ⟨ext, hh1, _⟩ := hx; rw [hh] at hh1; cases hh1
   | hole => exact absurd rfl hn
   | map es => simp only [ObjLe] at hx; rw [hh] at hx; cases hx; rw [ho]
   | iter s p => simp only [ObjLe] at hx; rw [hh] at hx; cases hx
  ·cases hc
 ·cases hc
theorem aconv_dn (hl : HLe H H1) {src dst : TypeId} {x v : Value} (hv : HeadOK H x) (hc : aconv P src dst x H1 = some v) : aconv P src dst x H = some v := by
 unfold aconv at hc ⊢
 split at hc
 ·exact hc
 ·exact hc
 ·exact hc
 ·split at hc
  ·obtain ⟨cs, h1, h2⟩ := bind_some' hc
   rw [cellsAt_dn hl hv h1]
   exact h2
  ·cases hc
 ·cases hc
theorem isVar_dn (hl : HLe H H1) {id L : Nat} (hv : ∃ o, H[id]? = some o ∧ o ≠ .hole ∧ ∀ cs e wr md, o = .cells cs e wr md → L ≤ cs.length) (hc : isVar H1 id L = true) : isVar H id L = true := by
 unfold isVar at hc ⊢
 split at hc
 ·rename_i hh
  obtain ⟨o, ho, hn, hL⟩ := hv
  have hx := hl.2 _ _ ho
  cases o with
  | cells cs e wr md =>
   obtain ⟨ext, hh1, hx⟩ := hx
   rw [hh] at hh1; cases hh1
   rw [hx rfl, List.append_nil] at hc
   rw [ho]
   exact hc
  | hole => exact absurd rfl hn
  | map es => simp only [ObjLe] at hx; rw [hh] at hx; cases hx
  | iter s p => simp only [ObjLe] at hx; rw [hh] at hx; cases hx
 ·cases hc
theorem aslice_dn (hl : HLe H H1) {t : TypeId} {x v : Value} {lo hi mx : Option Value} (hv : HeadOK H x) (hc : aslice P t x lo hi mx H1 = some v) : aslice P t x lo hi mx H = some v := by
 unfold aslice at hc ⊢
 split at hc
 ·exact hc
 ·split at hc
  ·exact hc
  ·exact hc
  ·exact hc
  ·obtain ⟨l, h1, hc⟩ := bind_some' hc
   obtain ⟨h, h2, hc⟩ := bind_some' hc
   obtain ⟨s, h3, hc⟩ := bind_some' hc
   split at hc
   ·rename_i hcond
    rw [h1, Option.bind_some, h2, Option.bind_some, h3, Option.bind_some, if_pos ⟨hcond.1, hcond.2.1, hcond.2.2.1, isVar_dn hl hv hcond.2.2.2⟩]
    exact hc
   ·cases hc
  ·cases hc
theorem alen_dn (hl : HLe H H1) {t : TypeId} {x v : Value} (hv : HeadOK H x) (hc : alen P t x H1 = some v) : alen P t x H = some v := by
 unfold alen at hc ⊢
 split at hc
 ·exact hc
 ·exact hc
 ·exact hc
 ·exact hc
 ·split at hc
  ·rename_i hh
   obtain ⟨o, ho, hn⟩ := hv
   have hx := hl.2 _ _ ho
   cases o with
   | cells cs e wr md => obtain ⟨ext, hh1, _⟩ := hx; rw [hh] at hh1; cases hh1
   | hole => exact absurd rfl hn
   | map es => simp only [ObjLe] at hx; rw [hh] at hx; cases hx; rw [ho]; exact hc
   | iter s p => simp only [ObjLe] at hx; rw [hh] at hx; cases hx
  ·cases hc
 ·cases hc
theorem alookup_dn (hl : HLe H H1) {t : TypeId} {x k v : Value} {ok : Bool} (hv : HeadOK H x) (hc : alookup P t x k ok H1 = some v) : alookup P t x k ok H = some v := by
 unfold alookup at hc ⊢
 obtain ⟨r, h1, hc⟩ := bind_some' hc
 obtain ⟨es, h2, hc⟩ := bind_some' hc
 rw [h1, Option.bind_some, amapOf_dn hl hv h2, Option.bind_some]
 exact hc
end

/-! ### Operations by their kinds -/
section
variable {S : Sys} {rsv : Bool} {o : Op} {fr : Frame} {H H' H1 : AHeap} {v : Value}

theorem quiet_all {r : Option Value} (h : quiet H r = some (v, H')) : H' = H ∧ ∀ H2, quiet H2 r = some (v, H2) := by
 obtain ⟨h1, h2⟩ := quiet_some h
 exact ⟨h2, fun H2 => by rw [h1]; rfl⟩

theorem aop_p (hk : opKd S rsv o = .p) (h : aop S o fr H = some (v, H')) : H' = H ∧ ∀ H2, aop S o fr H2 = some (v, H2) := by
 cases o with
 | move x => cases h; exact ⟨rfl, fun _ => rfl⟩
 | assign x => cases h; exact ⟨rfl, fun _ => rfl⟩
 | pick c a b =>
  simp only [aop] at h ⊢
  split at h
  ·cases h; exact ⟨rfl, fun _ => rfl⟩
  ·cases h
 | build t ps => exact quiet_all h
 | nilCheck x => exact quiet_all h
 | binOp op t x y ty => exact quiet_all h
 | unOp op t x => exact quiet_all h
 | makeFunc f first cap =>
  cases f with
  | func f =>
   simp only [aop] at h ⊢
   cases h; exact ⟨rfl, fun _ => rfl⟩
  | _ => cases h
 | fieldAddr t x f => exact quiet_all h
 | field t x f => exact quiet_all h
 | indexAddr t x i => exact quiet_all h
 | index t x i => exact quiet_all h
 | extract t i => exact quiet_all h
 | alloc e => cases rsv <;> cases hk
 | box e x => cases rsv <;> cases hk
 | buildSlice t n ps => cases rsv <;> cases hk
 | makeSlice t l c => cases rsv <;> cases hk
 | makeMap t r => cases r <;> cases rsv <;> cases hk
 | call c =>
  obtain ⟨callee, args, ts⟩ := c
  cases callee with
  | builtin b =>
   cases b <;> simp only [opKd] at hk <;> first | cases hk; done | (split at hk <;> cases hk; done) | skip
   all_goals
    simp only [aop, abuiltin] at h ⊢
    split at h <;> first | contradiction | (cases h; done) | skip
    exact quiet_all h
  | value f =>
   cases f <;> simp only [opKd] at hk <;> cases hk
  | invoke r m => cases hk
 | _ => cases hk

theorem aop_r_up (hk : opKd S rsv o = .r) (h : aop S o fr H = some (v, H')) : H' = H ∧ ∀ H1, HLe H H1 → aop S o fr H1 = some (v, H1) := by
 cases o with
 | load t x =>
  obtain ⟨h1, h2⟩ := quiet_some h
  exact ⟨h2, fun H1 hl => by simp only [aop]; rw [aload_up hl h1]; rfl⟩
 | lookup t x i ok =>
  obtain ⟨h1, h2⟩ := quiet_some h
  exact ⟨h2, fun H1 hl => by simp only [aop]; rw [alookup_up hl h1]; rfl⟩
 | convert a b x =>
  obtain ⟨h1, h2⟩ := quiet_some h
  exact ⟨h2, fun H1 hl => by simp only [aop]; rw [aconv_up hl h1]; rfl⟩
 | slice t x lo hi mx =>
  obtain ⟨h1, h2⟩ := quiet_some h
  exact ⟨h2, fun H1 hl => by simp only [aop]; rw [aslice_up hl h1]; rfl⟩
 | alloc e => cases rsv <;> cases hk
 | box e x => cases rsv <;> cases hk
 | buildSlice t n ps => cases rsv <;> cases hk
 | makeSlice t l c => cases rsv <;> cases hk
 | makeMap t r => cases r <;> cases rsv <;> cases hk
 | call c =>
  obtain ⟨callee, args, ts⟩ := c
  cases callee with
  | builtin b =>
   cases b <;> simp only [opKd] at hk <;> first | cases hk; done | (split at hk <;> cases hk; done) | skip
   simp only [aop, abuiltin] at h ⊢
   split at h <;> first | contradiction | (cases h; done) | skip
   obtain ⟨h1, h2⟩ := quiet_some h
   exact ⟨h2, fun H1 hl => by rw [alen_up hl h1]; rfl⟩
  | value f => cases f <;> simp only [opKd] at hk <;> cases hk
  | invoke r m => cases hk
 | _ => cases hk

theorem aop_r_dn (hk : opKd S rsv o = .r) (h : aop S o fr H1 = some (v, H')) (hl : HLe H H1) (hv : ∀ x ∈ o.operands, HeadOK H (aeval fr x)) : H' = H1 ∧ aop S o fr H = some (v, H) := by
 cases o with
 | load t x =>
  obtain ⟨h1, h2⟩ := quiet_some h
  exact ⟨h2, by simp only [aop]; rw [aload_dn hl (hv x (by simp [Op.operands])) h1]; rfl⟩
 | lookup t x i ok =>
  obtain ⟨h1, h2⟩ := quiet_some h
  exact ⟨h2, by simp only [aop]; rw [alookup_dn hl (hv x (by simp [Op.operands])) h1]; rfl⟩
 | convert a b x =>
  obtain ⟨h1, h2⟩ := quiet_some h
  exact ⟨h2, by simp only [aop]; rw [aconv_dn hl (hv x (by simp [Op.operands])) h1]; rfl⟩
 | slice t x lo hi mx =>
  obtain ⟨h1, h2⟩ := quiet_some h
  exact ⟨h2, by simp only [aop]; rw [aslice_dn hl (hv x (by simp [Op.operands])) h1]; rfl⟩
 | alloc e => cases rsv <;> cases hk
 | box e x => cases rsv <;> cases hk
 | buildSlice t n ps => cases rsv <;> cases hk
 | makeSlice t l c => cases rsv <;> cases hk
 | makeMap t r => cases r <;> cases rsv <;> cases hk
 | call c =>
  obtain ⟨callee, args, ts⟩ := c
  cases callee with
  | builtin b =>
   cases b <;> simp only [opKd] at hk <;> first | cases hk; done | (split at hk <;> cases hk; done) | skip
   simp only [aop] at h ⊢
   have hv' : ∀ x ∈ args.toList.map (aeval fr), HeadOK H x := fun x hx => by
    obtain ⟨y, hy, rfl⟩ := List.mem_map.1 hx
    exact hv y (by simp [Op.operands, Call.operands]; first | exact .inr (by simpa using hy) | simpa using hy)
   generalize args.toList.map (aeval fr) = xs at h hv'
   simp only [abuiltin] at h ⊢
   split at h <;> first | contradiction | (cases h; done) | skip
   obtain ⟨h1, h2⟩ := quiet_some h
   exact ⟨h2, by rw [alen_dn hl (hv' _ (by simp)) h1]; rfl⟩
  | value f => cases f <;> simp only [opKd] at hk <;> cases hk
  | invoke r m => cases hk
 | _ => cases hk

/-- What an operation makes that makes an object: the same one in any heap. -/
def MakesOne (S : Sys) (o : Op) (fr : Frame) (H : AHeap) (v : Value) (H' : AHeap) : Prop :=
 (H' = H ∧ ∀ H2, aop S o fr H2 = some (v, H2)) ∨
 ∃ obj, ∃ mk : Nat → Value, H' = H ++ [obj] ∧ v = mk H.length ∧ (∀ a b, renTop a b (mk a) = mk b) ∧ ∀ H2, aop S o fr H2 = some (mk H2.length, H2 ++ [obj])

theorem aop_a (hk : opKd S true o = .a) (hna : isAppend o = false) (h : aop S o fr H = some (v, H')) : MakesOne S o fr H v H' := by
 cases o with
 | alloc e =>
  simp only [aop, aalloc] at h
  obtain ⟨z, hz, h1⟩ := bind_some' h
  split at h1
  ·rename_i hc
   cases h1
   exact .inr ⟨_, fun i => .pointer (some ⟨i, 0, some (cellsOf z).length⟩), rfl, rfl, fun a b => by simp [renTop], fun H2 => by simp only [aop, aalloc, hz, Option.bind_some, if_pos hc]; rfl⟩
  ·cases h1
 | box e x =>
  simp only [aop, abox] at h
  split at h
  ·rename_i hc
   cases h
   exact .inr ⟨_, fun i => .pointer (some ⟨i, 0, some (cellsOf (aeval fr x)).length⟩), rfl, rfl, fun a b => by simp [renTop], fun H2 => by simp only [aop, abox, if_pos hc]; rfl⟩
  ·cases h
 | buildSlice t n ps =>
  simp only [aop, abuildSlice] at h
  obtain ⟨e, he, h⟩ := bind_some' h
  obtain ⟨s, hs, h⟩ := bind_some' h
  split at h
  ·rename_i h0
   split at h
   ·rename_i hp
    cases h
    exact .inl ⟨rfl, fun H2 => by simp only [aop, abuildSlice, he, hs, Option.bind_some, if_pos h0, if_pos hp]⟩
   ·cases h
  ·rename_i h0
   split at h
   ·cases h
   ·rename_i hl
    obtain ⟨z, hz, h⟩ := bind_some' h
    split at h
    ·rename_i hc
     obtain ⟨cs, hcs, h⟩ := map_some' h
     cases h
     exact .inr ⟨_, fun i => .slice (some ⟨i, 0, some (n * s)⟩) n n, rfl, rfl, fun a b => by simp [renTop], fun H2 => by simp only [aop, abuildSlice, he, hs, hz, Option.bind_some, if_neg h0, if_neg hl, if_pos hc, hcs]; rfl⟩
    ·cases h
 | makeSlice t l c =>
  simp only [aop, amakeSlice] at h
  split at h
  ·rename_i k n k' m hl hc
   obtain ⟨e, he, h⟩ := bind_some' h
   obtain ⟨s, hs, h⟩ := bind_some' h
   obtain ⟨b, hb, h⟩ := bind_some' h
   obtain ⟨z, hz, h⟩ := bind_some' h
   split at h
   ·rename_i hcond
    cases h
    exact .inr ⟨_, fun i => .slice (some ⟨i, 0, some (n.toNat * s)⟩) n.toNat n.toNat, rfl, rfl, fun a b => by simp [renTop], fun H2 => by simp only [aop, amakeSlice, hl, hc, he, hs, hb, hz, Option.bind_some, if_pos hcond]; rfl⟩
   ·cases h
  ·cases h
 | makeMap t r =>
  cases r with
  | none =>
   cases h
   exact .inr ⟨_, fun i => .map (some i), rfl, rfl, fun a b => by simp [renTop], fun H2 => rfl⟩
  | some r => cases hk
 | call c =>
  obtain ⟨callee, args, ts⟩ := c
  cases callee with
  | builtin b => cases b <;> first | (simp only [opKd] at hk; cases hk; done) | (simp [isAppend] at hna; done)
  | value f => cases f <;> simp only [opKd] at hk <;> cases hk
  | invoke r m => cases hk
 | _ => cases hk

theorem freshBase_other {o : Op} (h : isAppend o = false) (fr : Frame) : freshBase fr o = true := by
 unfold freshBase
 split
 ·simp [isAppend] at h
 ·rfl

/-- An append to nothing: what it does to memory. -/
theorem aappend_fresh {P : Program} {prot : Nat} {room : Bool} {t t' : TypeId} {x y : Value} (hx : x = .slice none 0 0 ∨ x = .slice (some ⟨0, 0, none⟩) 0 0) (h : aappend P prot room t t' x y H1 = some (v, H')) :
  ∃ s m cs e, srcCells P s t' y H1 = some (m, cs) ∧ ((H' = H1 ∧ ∀ H, srcCells P s t' y H = some (m, cs) → aappend P prot room t t' x y H = some (v, H)) ∨
   (H' = H1 ++ [.cells cs e cs.length .row] ∧ v = .slice (some ⟨H1.length, 0, some (m * s)⟩) m m ∧ ∀ H, srcCells P s t' y H = some (m, cs) → aappend P prot room t t' x y H = some (.slice (some ⟨H.length, 0, some (m * s)⟩) m m, H ++ [.cells cs e cs.length .row]))) := by
 unfold aappend at h
 obtain ⟨e, he, h⟩ := bind_some' h
 obtain ⟨s, hs, h⟩ := bind_some' h
 obtain ⟨b, hb, h⟩ := bind_some' h
 obtain ⟨z, hz, h⟩ := bind_some' h
 split at h
 case isFalse => cases h
 rename_i hc0
 obtain ⟨⟨m, cs⟩, hsrc, h⟩ := bind_some' h
 simp only at h
 split at h
 case isFalse => cases h
 rename_i hc1
 refine ⟨s, m, cs, e, hsrc, ?_⟩
 rcases hx with rfl | rfl
 ·simp only at h
  split at h
  ·rename_i hm
   cases h
   refine .inl ⟨rfl, fun H hs2 => ?_⟩
   unfold aappend
   rw [he, Option.bind_some, hs, Option.bind_some, hb, Option.bind_some, hz, Option.bind_some, if_pos hc0, hs2, Option.bind_some]
   simp only
   rw [if_pos hc1, if_pos hm]
  ·rename_i hm
   split at h
   ·rename_i hr
    cases h
    refine .inr ⟨rfl, rfl, fun H hs2 => ?_⟩
    unfold aappend
    rw [he, Option.bind_some, hs, Option.bind_some, hb, Option.bind_some, hz, Option.bind_some, if_pos hc0, hs2, Option.bind_some]
    simp only
    rw [if_pos hc1, if_neg hm, if_pos hr]
    rfl
   ·cases h
 ·simp only at h
  split at h
  ·rename_i hm
   cases h
   refine .inl ⟨rfl, fun H hs2 => ?_⟩
   unfold aappend
   rw [he, Option.bind_some, hs, Option.bind_some, hb, Option.bind_some, hz, Option.bind_some, if_pos hc0, hs2, Option.bind_some]
   simp only
   rw [if_pos hc1, if_pos hm]
  ·rename_i hm
   split at h
   ·rename_i hr
    cases h
    refine .inr ⟨rfl, rfl, fun H hs2 => ?_⟩
    unfold aappend
    rw [he, Option.bind_some, hs, Option.bind_some, hb, Option.bind_some, hz, Option.bind_some, if_pos hc0, hs2, Option.bind_some]
    simp only
    rw [if_pos hc1, if_neg hm, if_pos hr]
    rfl
   ·cases h
theorem srcCells_dn {P : Program} (hl : HLe H H1) {s : Nat} {t : TypeId} {y : Value} {r : Nat × List Value} (hv : HeadOK H y) (h : srcCells P s t y H1 = some r) : srcCells P s t y H = some r := by
 unfold srcCells at h ⊢
 split at h
 ·obtain ⟨cs, h1, h2⟩ := map_some' h
  rw [cellsAt_dn hl hv h1, Option.map_some]
  exact congrArg some h2
 ·cases h

theorem abuiltin_append {ts : List TypeId} {args : List Value} {r : Value × AHeap} (h : abuiltin S .append ts args H = some r) : ∃ t t' x y, ts = [t, t'] ∧ args = [x, y] ∧ aappend S.P S.prot S.room t t' x y H = some r := by
 match ts, args, h with
 | [t, t'], [x, y], h => exact ⟨t, t', x, y, rfl, rfl, h⟩
 | [], _, h => cases h
 | [_], _, h => cases h
 | _ :: _ :: _ :: _, _, h => cases h
 | [_, _], [], h => cases h
 | [_, _], [_], h => cases h
 | [_, _], _ :: _ :: _ :: _, h => cases h

/-- The parts of an append. -/
theorem append_parts {o : Op} (ha : isAppend o = true) (hf : freshBase fr o = true) (h : aop S o fr H1 = some (v, H')) : ∃ t t' x y a b, x = aeval fr a ∧ y = aeval fr b ∧ b ∈ o.operands ∧ (x = .slice none 0 0 ∨ x = .slice (some ⟨0, 0, none⟩) 0 0) ∧
  aappend S.P S.prot S.room t t' x y H1 = some (v, H') ∧ ∀ H r, aappend S.P S.prot S.room t t' x y H = some r → aop S o fr H = some r := by
 unfold isAppend at ha
 split at ha
 case h_2 => cases ha
 rename_i args ts
 simp only [freshBase] at hf
 have hop : ∀ y ∈ args.toList, y ∈ (Op.call { callee := .builtin .append, args := args, argTypes := ts }).operands := fun y hy => by
  simp [Op.operands, Call.operands]; first | exact .inr (by simpa using hy) | simpa using hy
 simp only [aop] at h ⊢
 obtain ⟨t, t', x, y, hts, hxy, h2⟩ := abuiltin_append h
 match hal : args.toList, hop, hf, hxy with
 | [], _, hf, _ => cases hf
 | [a], _, _, hxy => simp at hxy
 | [a, b], hop, hf, hxy =>
  simp only [List.map_cons, List.map_nil] at hf hxy ⊢
  simp only [List.cons.injEq, and_true] at hxy
  obtain ⟨rfl, rfl⟩ := hxy
  have hx : aeval fr a = .slice none 0 0 ∨ aeval fr a = .slice (some ⟨0, 0, none⟩) 0 0 := by
   split at hf
   ·rename_i hh; injection hh with h1 _; exact .inl h1
   ·rename_i hh; injection hh with h1 _; exact .inr h1
   ·cases hf
  refine ⟨t, t', _, _, a, b, rfl, rfl, hop b (by simp), hx, h2, fun H r hr => ?_⟩
  rw [hts]
  exact hr
 | a :: b :: c :: l, _, _, hxy => simp at hxy

theorem aopA_eff {hid : Nat} (hk : opKd S true o = .a) (h : aopA S hid o fr H = some (v, H')) : H' = H ∨ (H[hid]? = some .hole ∧ ∃ obj, H' = H.set hid obj) := by
 unfold aopA at h
 split at h
 case isFalse => cases h
 rename_i hfb
 obtain ⟨⟨v1, H1⟩, h1, h2⟩ := bind_some' h
 dsimp only at h2
 split at h2
 ·rename_i obj e1 e2
  cases h2
  exact .inr ⟨e2, obj, rfl⟩
 ·rename_i e1
  cases h2
  have same : ∀ {X : AHeap}, H' = H ++ X → H'[H.length]? = none → H' = H := fun {X} hX hn => by
   subst hX
   cases X with
   | nil => simp
   | cons a l => rw [List.getElem?_append_right (Nat.le_refl _)] at hn; simp at hn
  cases hap : isAppend o with
  | false =>
   rcases aop_a hk hap h1 with ⟨rfl, _⟩ | ⟨obj, mk, rfl, _, _, _⟩
   ·exact .inl rfl
   ·exact .inl (same rfl e1)
  | true =>
   obtain ⟨t, t', x, y, a, b, _, _, _, hx, h3, _⟩ := append_parts hap hfb h1
   obtain ⟨s, m, cs, e, _, ⟨rfl, _⟩ | ⟨rfl, _, _⟩⟩ := aappend_fresh hx h3
   ·exact .inl rfl
   ·exact .inl (same rfl e1)
 ·cases h2

theorem aopA_pure {hid : Nat} (hk : opKd S true o = .a) (hap : isAppend o = false) (h : aopA S hid o fr H1 = some (v, H')) :
  (H' = H1 ∧ ∀ H, aopA S hid o fr H = some (v, H)) ∨ (H1[hid]? = some .hole ∧ ∃ obj, H' = H1.set hid obj ∧ ∀ H : AHeap, H[hid]? = some .hole → aopA S hid o fr H = some (v, H.set hid obj)) := by
 unfold aopA at h
 split at h
 case isFalse => cases h
 rename_i hfb
 obtain ⟨⟨v1, H2⟩, h1, h2⟩ := bind_some' h
 have hn : ∀ X : AHeap, X[X.length]? = none := fun X => List.getElem?_eq_none (Nat.le_refl _)
 rcases aop_a hk hap h1 with ⟨rfl, hall⟩ | ⟨obj, mk, e1, e2, hren, hall⟩
 ·dsimp only at h2
  rw [hn] at h2
  simp only [Option.some.injEq, Prod.mk.injEq] at h2
  obtain ⟨rfl, rfl⟩ := h2
  refine .inl ⟨rfl, fun H => ?_⟩
  unfold aopA
  rw [if_pos hfb, hall H, Option.bind_some]
  dsimp only
  rw [hn]
 ·subst e1; subst e2
  dsimp only at h2
  rw [append_get.1] at h2
  split at h2
  ·rename_i obj' q1 q2
   cases q1
   simp only [Option.some.injEq, Prod.mk.injEq] at h2
   obtain ⟨rfl, rfl⟩ := h2
   refine .inr ⟨q2, obj, rfl, fun H hh => ?_⟩
   unfold aopA
   rw [if_pos hfb, hall H, Option.bind_some]
   dsimp only
   rw [append_get.1, hh]
   simp only [hren]
  ·rename_i e; cases e
  ·cases h2

theorem aopA_a {hid : Nat} (hk : opKd S true o = .a) (h : aopA S hid o fr H1 = some (v, H')) (hl : HLe H H1) (hv : ∀ x ∈ o.operands, HeadOK H (aeval fr x)) :
  (H' = H1 ∧ aopA S hid o fr H = some (v, H)) ∨ (H1[hid]? = some .hole ∧ ∃ obj, H' = H1.set hid obj ∧ (H[hid]? = some .hole → aopA S hid o fr H = some (v, H.set hid obj))) := by
 unfold aopA at h
 split at h
 case isFalse => cases h
 rename_i hfb
 obtain ⟨⟨v1, H2⟩, h1, h2⟩ := bind_some' h
 have hn : ∀ X : AHeap, X[X.length]? = none := fun X => List.getElem?_eq_none (Nat.le_refl _)
 have quietly : H2 = H1 → aop S o fr H = some (v1, H) → (H' = H1 ∧ aopA S hid o fr H = some (v, H)) := fun e1 e2 => by
  subst e1
  dsimp only at h2
  rw [hn] at h2
  simp only [Option.some.injEq, Prod.mk.injEq] at h2
  obtain ⟨rfl, rfl⟩ := h2
  refine ⟨rfl, ?_⟩
  unfold aopA
  rw [if_pos hfb, e2, Option.bind_some]
  dsimp only
  rw [hn]
 have makes : ∀ (obj : AObj) (mk : Nat → Value), H2 = H1 ++ [obj] → v1 = mk H1.length → (∀ a b, renTop a b (mk a) = mk b) → aop S o fr H = some (mk H.length, H ++ [obj]) →
   (H1[hid]? = some .hole ∧ ∃ obj, H' = H1.set hid obj ∧ (H[hid]? = some .hole → aopA S hid o fr H = some (v, H.set hid obj))) := fun obj mk e1 e2 hren e3 => by
  subst e1; subst e2
  dsimp only at h2
  rw [append_get.1] at h2
  split at h2
  ·rename_i obj' q1 q2
   cases q1
   simp only [Option.some.injEq, Prod.mk.injEq] at h2
   obtain ⟨rfl, rfl⟩ := h2
   refine ⟨q2, obj, rfl, fun hh => ?_⟩
   unfold aopA
   rw [if_pos hfb, e3, Option.bind_some]
   dsimp only
   rw [append_get.1, hh]
   simp only [hren]
  ·rename_i e; cases e
  ·cases h2
 cases hap : isAppend o with
 | false =>
  rcases aop_a hk hap h1 with ⟨rfl, hall⟩ | ⟨obj, mk, e1, e2, hren, hall⟩
  ·exact .inl (quietly rfl (hall H))
  ·exact .inr (makes obj mk e1 e2 hren (hall H))
 | true =>
  obtain ⟨t, t', x, y, a, b, ex, ey, hb, hx, h3, h4⟩ := append_parts hap hfb h1
  obtain ⟨s, m, cs, e, hsrc, ⟨e1, hall⟩ | ⟨e1, e2, hall⟩⟩ := aappend_fresh hx h3
  ·exact .inl (quietly e1 (h4 _ _ (hall H (srcCells_dn hl (by rw [ey]; exact hv b hb) hsrc))))
  ·exact .inr (makes _ (fun i => .slice (some ⟨i, 0, some (m * s)⟩) m m) e1 e2 (fun a b => by simp [renTop]) (h4 _ _ (hall H (srcCells_dn hl (by rw [ey]; exact hv b hb) hsrc))))

/-- Calls that change nothing that was there. -/
def ClQuiet (S : Sys) : Prop := ∀ f args prot H v H', S.mt f = false → S.cl f args prot H = some (v, H') → Keeps H.length H H'

theorem aappend_le {P : Program} {prot : Nat} {t t' : TypeId} {x y : Value} (h : aappend P prot false t t' x y H = some (v, H')) : HLe H H' := by
 unfold aappend at h
 obtain ⟨e, he, h⟩ := bind_some' h
 obtain ⟨s, hs, h⟩ := bind_some' h
 obtain ⟨b, hb, h⟩ := bind_some' h
 obtain ⟨z, hz, h⟩ := bind_some' h
 split at h
 ·obtain ⟨r, hr, h⟩ := bind_some' h
  dsimp only at h
  split at h
  ·split at h
   ·split at h
    ·cases h; exact HLe.refl _
    ·split at h
     ·cases h; exact HLe.append _ _
     ·cases h
   ·split at h
    ·cases h; exact HLe.refl _
    ·split at h
     ·cases h; exact HLe.append _ _
     ·cases h
   ·split at h
    ·split at h
     ·cases h; exact HLe.refl _
     ·cases h
    ·split at h
     ·simp at h
     ·split at h
      ·rename_i hh
       split at h
       ·rename_i hc
        obtain ⟨c1, c2, c3, c4, c5⟩ := hc
        subst c4
        cases h
        exact HLe.grow hh c1
       ·cases h
      ·cases h
   ·cases h
  ·cases h
 ·cases h

theorem aop_l (hk : opKd S rsv o = .l true) (hq : ClQuiet S) (h : aop S o fr H = some (v, H')) : HLe H H' := by
 have made : isAppend o = false → opKd S true o = .a → HLe H H' := fun hna hk => by
  rcases aop_a hk hna h with ⟨rfl, _⟩ | ⟨obj, mk, rfl, _⟩
  ·exact HLe.refl _
  ·exact HLe.append _ _
 cases o with
 | alloc e => exact made rfl rfl
 | box e x => exact made rfl rfl
 | buildSlice t n ps => exact made rfl rfl
 | makeSlice t l c => exact made rfl rfl
 | makeMap t r =>
  cases r with
  | none => exact made rfl rfl
  | some r => cases hk
 | range t x =>
  simp only [aop, arange] at h
  split at h
  ·cases h; exact HLe.append _ _
  ·cases h
 | call c =>
  obtain ⟨callee, args, ts⟩ := c
  cases callee with
  | builtin b =>
   cases b <;> simp only [opKd] at hk <;> first | cases hk; done | skip
   simp only [aop, abuiltin] at h
   split at h <;> first | contradiction | (cases h; done) | skip
   have hr : S.room = false := by
    split at hk
    ·cases hk
    ·simpa using hk
   rw [hr] at h
   exact aappend_le h
  | value f =>
   cases f with
   | func g =>
    simp only [opKd, Kd.l.injEq, Bool.not_eq_true'] at hk
    simp only [aop, aeval, acall, dynOK] at h
    split at h
    ·split at h
     ·obtain ⟨_, rfl⟩ := quiet_some h
      exact HLe.refl _
     ·cases h
    ·exact HLe.keeps (hq _ _ _ _ _ _ hk h)
   | tmp t =>
    simp only [opKd, Kd.l.injEq, Bool.not_eq_true'] at hk
    simp only [aop] at h
    split at h
    case h_2 => cases h
    rename_i hdy
    simp only [dynOK, hk, Bool.false_or] at hdy
    unfold acall at h
    split at h
    case h_2 => cases h
    rename_i hv
    rw [hv] at hdy
    simp only [Bool.not_eq_true'] at hdy
    split at h
    ·split at h
     ·obtain ⟨_, rfl⟩ := quiet_some h
      exact HLe.refl _
     ·cases h
    ·exact HLe.keeps (hq _ _ _ _ _ _ hdy h)
   | _ => cases hk
  | invoke r m => cases hk
 | _ => first | (cases hk; done) | (simp only [opKd] at hk; split at hk <;> cases hk)
end
end Go.Proofs.Ythjkodbinkiifaa.Am
namespace Go.Proofs.Ythjkodbinkiifaa.Am
open Go Go.RowKit

section
variable {S : Sys} {rsv : Bool} {ops : Array Oper} {base : Nat} {H H' H1 : AHeap} {fr fr1 fr' : Frame} {v : Value}

theorem aop_congr {o : Op} (h : ∀ x ∈ o.operands, aeval fr x = aeval fr1 x) : aop S o fr H = aop S o fr1 H := by
 have arr : ∀ (a : Array Operand), (∀ x ∈ a, aeval fr x = aeval fr1 x) → a.toList.map (aeval fr) = a.toList.map (aeval fr1) := fun a ha => List.map_congr_left fun x hx => ha x (by simpa using hx)
 have opt : ∀ (a : Option Operand), (∀ x ∈ a.toArray, aeval fr x = aeval fr1 x) → a.map (aeval fr) = a.map (aeval fr1) := fun a ha => by
  cases a with
  | none => rfl
  | some x => simp only [Option.map_some]; rw [ha x (by simp)]
 have prt : ∀ (ps : Array (Nat × Operand)), (∀ x ∈ (ps.toList.map (·.2)).toArray, aeval fr x = aeval fr1 x) → (ps.toList.map fun p => (p.1, aeval fr p.2)) = ps.toList.map fun p => (p.1, aeval fr1 p.2) := fun ps hp =>
  List.map_congr_left fun p hx => by rw [hp p.2 (by simp; exact ⟨p.1, by simpa using hx⟩)]
 cases o <;> simp only [Op.operands] at h <;> try rfl
 case move x => simp only [aop]; rw [h x (by simp)]
 case assign x => simp only [aop]; rw [h x (by simp)]
 case pick c a b => simp only [aop]; rw [h c (by simp), h a (by simp), h b (by simp)]
 case box e x => simp only [aop]; rw [h x (by simp)]
 case build t ps => simp only [aop]; rw [prt ps h]
 case buildSlice t n ps => simp only [aop]; rw [prt ps h]
 case load t x => simp only [aop]; rw [h x (by simp)]
 case store t a x => simp only [aop]; rw [h a (by simp), h x (by simp)]
 case nilCheck x => simp only [aop]; rw [h x (by simp)]
 case binOp op t x y ty => simp only [aop]; rw [h x (by simp), h y (by simp)]
 case unOp op t x => simp only [aop]; rw [h x (by simp)]
 case convert a b x => simp only [aop]; rw [h x (by simp)]
 case makeFunc f first cap =>
  cases f <;> try rfl
  simp only [aop]; rw [arr first fun x hx => h x (by simp [hx]), arr cap fun x hx => h x (by simp [hx])]
 case makeMap t r => cases r <;> rfl
 case makeSlice t l c => simp only [aop]; rw [h l (by simp), h c (by simp)]
 case slice t x lo hi mx => simp only [aop]; rw [h x (by simp), opt lo fun y hy => h y (by simp at hy ⊢; simp [hy]), opt hi fun y hy => h y (by simp at hy ⊢; simp [hy]), opt mx fun y hy => h y (by simp at hy ⊢; simp [hy])]
 case fieldAddr t x f => simp only [aop]; rw [h x (by simp)]
 case field t x f => simp only [aop]; rw [h x (by simp)]
 case indexAddr t x i => simp only [aop]; rw [h x (by simp), h i (by simp)]
 case index t x i => simp only [aop]; rw [h x (by simp), h i (by simp)]
 case lookup t x i ok => simp only [aop]; rw [h x (by simp), h i (by simp)]
 case mapUpdate t m k v => simp only [aop]; rw [h m (by simp), h k (by simp), h v (by simp)]
 case insert t m k v => simp only [aop]; rw [h m (by simp), h k (by simp), h v (by simp)]
 case range t x => simp only [aop]; rw [h x (by simp)]
 case next it s =>
  cases s
  ·rfl
  ·simp only [aop]; rw [h it (by simp)]
 case extract t i => simp only [aop]; rw [h t (by simp)]
 case call c =>
  obtain ⟨callee, args, ts⟩ := c
  cases callee with
  | builtin b => simp only [aop]; rw [arr args fun x hx => h x (by simp [Call.operands, hx])]
  | value f => simp only [aop]; rw [h f (by simp [Call.operands]), arr args fun x hx => h x (by simp [Call.operands, hx])]
  | invoke r m => rfl

theorem freshBase_congr {o : Op} (h : ∀ x ∈ o.operands, aeval fr x = aeval fr1 x) : freshBase fr o = freshBase fr1 o := by
 unfold freshBase
 split
 ·rename_i args ts
  have : args.toList.map (aeval fr) = args.toList.map (aeval fr1) := List.map_congr_left fun x hx => h x (by
   simp [Op.operands, Call.operands]; first | exact .inr (by simpa using hx) | simpa using hx)
  rw [this]
 ·rfl
theorem aopA_congr {o : Op} {hid : Nat} (h : ∀ x ∈ o.operands, aeval fr x = aeval fr1 x) : aopA S hid o fr H = aopA S hid o fr1 H := by
 unfold aopA
 rw [aop_congr h, freshBase_congr h]

def dstI (ops : Array Oper) (i : Nat) : Option Tmp := (ops[i]?).bind (·.dst)
def looksI (ops : Array Oper) (i : Nat) : List Tmp :=
 match ops[i]? with
 | some o => o.looksAt ops
 | none => []
def valI (S : Sys) (rsv : Bool) (ops : Array Oper) (base i : Nat) (fr : Frame) (H : AHeap) : Option (Value × AHeap) :=
 match ops[i]? with
 | none => none
 | some o =>
  match o.guard with
  | none => runnerI S rsv ops base i o.op fr H
  | some (j, want) => onGuard (guardVal ops fr j) want fun b => if b then runnerI S rsv ops base i o.op fr H else some (skipV, H)

theorem stepI_val {β : Type} {i : Nat} {k : Frame → AHeap → Option β} : stepI S rsv ops base i fr H k = (valI S rsv ops base i fr H).bind fun r => k (put S.nt fr (dstI ops i) r.1) r.2 := by
 unfold stepI valI dstI
 cases ops[i]? with
 | none => rfl
 | some o =>
  simp only [stepWith, Option.bind_some]
  cases o.guard with
  | none => rfl
  | some g =>
   obtain ⟨j, want⟩ := g
   simp only
   rw [onGuard_bind]

/-- An operation is carried out, or passed by. -/
theorem valI_some {i : Nat} (h : valI S rsv ops base i fr H = some (v, H')) : ∃ o, ops[i]? = some o ∧
  ((runnerI S rsv ops base i o.op fr H = some (v, H') ∧ ∀ H2 v2 H2', runnerI S rsv ops base i o.op fr H2 = some (v2, H2') → valI S rsv ops base i fr H2 = some (v2, H2')) ∨
   (v = skipV ∧ H' = H ∧ ∀ H2, valI S rsv ops base i fr H2 = some (skipV, H2))) := by
 unfold valI at h ⊢
 split at h
 ·cases h
 ·rename_i o ho
  rw [ho]
  refine ⟨o, rfl, ?_⟩
  split at h
  ·rename_i hg
   exact .inl ⟨h, fun _ _ _ h2 => h2⟩
  ·rename_i j want hg
   unfold onGuard at h ⊢
   split at h
   ·rename_i b hb
    cases hbw : (b == want) with
    | true =>
     rw [hbw] at h
     exact .inl ⟨h, fun _ _ _ h2 => by simpa using h2⟩
    | false =>
     rw [hbw] at h
     cases h
     exact .inr ⟨rfl, rfl, fun H2 => rfl⟩
   ·rename_i vs hb
    split at h
    ·rename_i hl
     cases h
     exact .inr ⟨rfl, rfl, fun H2 => by rw [if_pos hl]; rfl⟩
    ·cases h
   ·cases h

theorem eval_looks {o : Oper} (h : ∀ t ∈ o.looksAt ops, fr t = fr1 t) : ∀ x ∈ o.op.operands, aeval fr x = aeval fr1 x := by
 intro x hx
 cases x with
 | tmp t => exact h t (by unfold Oper.looksAt; exact List.mem_append_left _ (List.mem_filterMap.2 ⟨.tmp t, by simpa using hx, rfl⟩))
 | _ => rfl

theorem valI_congr {i : Nat} (h : ∀ t ∈ looksI ops i, fr t = fr1 t) : valI S rsv ops base i fr H = valI S rsv ops base i fr1 H := by
 unfold looksI at h
 unfold valI
 cases ho : ops[i]? with
 | none => rfl
 | some o =>
  rw [ho] at h
  simp only at h
  have hev := eval_looks h
  have hrun : runnerI S rsv ops base i o.op fr H = runnerI S rsv ops base i o.op fr1 H := by
   unfold runnerI
   split
   ·exact aopA_congr hev
   ·exact aop_congr hev
  cases hg : o.guard with
  | none => simp only [hg]; exact hrun
  | some g =>
   obtain ⟨j, want⟩ := g
   simp only [hg]
   have hgv : guardVal ops fr j = guardVal ops fr1 j := by
    unfold guardVal
    cases hd : (ops[j]?).bind (·.dst) with
    | none => rfl
    | some d => exact h d (by unfold Oper.looksAt; exact List.mem_append_right _ (by rw [hg]; simp [hd]))
   rw [hgv, hrun]

theorem kdAt_of {i : Nat} {o : Oper} (ho : ops[i]? = some o) : kdAt S rsv ops i = opKd S rsv o.op := by
 unfold kdAt
 rw [ho]

/-- A kind other than 'a' is the machine's own. -/
theorem runner_own {i : Nat} {o : Oper} (ho : ops[i]? = some o) (hn : isA (kdAt S rsv ops i) = false) : runnerI S rsv ops base i = aop S := by
 unfold runnerI
 split
 ·rename_i hc
  simp only [Bool.and_eq_true] at hc
  rw [hc.1] at hn
  rw [hc.2] at hn
  cases hn
 ·rfl

theorem valI_p {i : Nat} (hk : kdAt S rsv ops i = .p) (h : valI S rsv ops base i fr H = some (v, H')) : H' = H ∧ ∀ H2, valI S rsv ops base i fr H2 = some (v, H2) := by
 obtain ⟨o, ho, ⟨h1, h2⟩ | ⟨rfl, h1, h2⟩⟩ := valI_some h
 ·rw [runner_own ho (by rw [hk]; rfl)] at h1 h2
  rw [kdAt_of ho] at hk
  obtain ⟨k1, k2⟩ := aop_p hk h1
  exact ⟨k1, fun H2 => h2 _ _ _ (k2 H2)⟩
 ·exact ⟨h1, h2⟩

theorem valI_r_up {i : Nat} (hk : kdAt S rsv ops i = .r) (h : valI S rsv ops base i fr H = some (v, H')) : H' = H ∧ ∀ H1, HLe H H1 → valI S rsv ops base i fr H1 = some (v, H1) := by
 obtain ⟨o, ho, ⟨h1, h2⟩ | ⟨rfl, h1, h2⟩⟩ := valI_some h
 ·rw [runner_own ho (by rw [hk]; rfl)] at h1 h2
  rw [kdAt_of ho] at hk
  obtain ⟨k1, k2⟩ := aop_r_up hk h1
  exact ⟨k1, fun H2 hl => h2 _ _ _ (k2 H2 hl)⟩
 ·exact ⟨h1, fun H1 _ => h2 H1⟩

theorem valI_r_dn {i : Nat} (hk : kdAt S rsv ops i = .r) (h : valI S rsv ops base i fr H1 = some (v, H')) (hl : HLe H H1) (hv : ∀ x, HeadOK H (aeval fr x)) : H' = H1 ∧ valI S rsv ops base i fr H = some (v, H) := by
 obtain ⟨o, ho, ⟨h1, h2⟩ | ⟨rfl, h1, h2⟩⟩ := valI_some h
 ·rw [runner_own ho (by rw [hk]; rfl)] at h1 h2
  rw [kdAt_of ho] at hk
  obtain ⟨k1, k2⟩ := aop_r_dn hk h1 hl fun x _ => hv x
  exact ⟨k1, h2 _ _ _ k2⟩
 ·exact ⟨h1, h2 H⟩

theorem kd_a_rsv {i : Nat} (hk : kdAt S rsv ops i = .a) : rsv = true := by
 cases rsv with
 | true => rfl
 | false =>
  exfalso
  unfold kdAt at hk
  split at hk
  ·rename_i o _
   cases ho : o.op <;> rw [ho] at hk <;> simp only [opKd] at hk <;> first | (cases hk; done) | (split at hk <;> cases hk; done) | (split at hk <;> first | (cases hk; done) | (split at hk <;> cases hk; done))
  ·cases hk

theorem valI_a_eff {i : Nat} (hk : kdAt S rsv ops i = .a) (h : valI S rsv ops base i fr H = some (v, H')) : H' = H ∨ (H[base + rankA S ops i]? = some .hole ∧ ∃ obj, H' = H.set (base + rankA S ops i) obj) := by
 have hrsv := kd_a_rsv hk
 subst hrsv
 obtain ⟨o, ho, ⟨h1, h2⟩ | ⟨rfl, h1, h2⟩⟩ := valI_some h
 ·have hrun : runnerI S true ops base i = aopA S (base + rankA S ops i) := by
   unfold runnerI
   rw [hk]
   rfl
  rw [hrun] at h1
  rw [kdAt_of ho] at hk
  exact aopA_eff hk h1
 ·exact .inl h1
theorem valI_a {i : Nat} (hk : kdAt S rsv ops i = .a) (h : valI S rsv ops base i fr H1 = some (v, H')) (hl : HLe H H1) (hv : ∀ x, HeadOK H (aeval fr x)) :
  (H' = H1 ∧ valI S rsv ops base i fr H = some (v, H)) ∨
  (H1[base + rankA S ops i]? = some .hole ∧ ∃ obj, H' = H1.set (base + rankA S ops i) obj ∧ (H[base + rankA S ops i]? = some .hole → valI S rsv ops base i fr H = some (v, H.set (base + rankA S ops i) obj))) := by
 have hrsv := kd_a_rsv hk
 subst hrsv
 obtain ⟨o, ho, ⟨h1, h2⟩ | ⟨rfl, h1, h2⟩⟩ := valI_some h
 ·have hrun : runnerI S true ops base i = aopA S (base + rankA S ops i) := by
   unfold runnerI
   rw [hk]
   rfl
  rw [hrun] at h1 h2
  rw [kdAt_of ho] at hk
  rcases aopA_a hk h1 hl (fun x _ => hv x) with ⟨k1, k2⟩ | ⟨k1, obj, k2, k3⟩
  ·exact .inl ⟨k1, h2 _ _ _ k2⟩
  ·exact .inr ⟨k1, obj, k2, fun hh => h2 _ _ _ (k3 hh)⟩
 ·exact .inl ⟨h1, h2 _⟩

theorem valI_pure {i : Nat} (hp : pureA S rsv ops i = true) (h : valI S rsv ops base i fr H1 = some (v, H')) :
  (H' = H1 ∧ ∀ H, valI S rsv ops base i fr H = some (v, H)) ∨
  (H1[base + rankA S ops i]? = some .hole ∧ ∃ obj, H' = H1.set (base + rankA S ops i) obj ∧ ∀ H : AHeap, H[base + rankA S ops i]? = some .hole → valI S rsv ops base i fr H = some (v, H.set (base + rankA S ops i) obj)) := by
 unfold pureA at hp
 rw [Bool.and_eq_true] at hp
 obtain ⟨hk0, hp⟩ := hp
 have hk : kdAt S rsv ops i = .a := by
  cases hx : kdAt S rsv ops i <;> rw [hx] at hk0 <;> first | rfl | cases hk0
 have hrsv := kd_a_rsv hk
 subst hrsv
 obtain ⟨o, ho, ⟨h1, h2⟩ | ⟨rfl, h1, h2⟩⟩ := valI_some h
 ·have hrun : runnerI S true ops base i = aopA S (base + rankA S ops i) := by
   unfold runnerI
   rw [hk]
   rfl
  rw [hrun] at h1 h2
  rw [kdAt_of ho] at hk
  rw [ho] at hp
  have hap : isAppend o.op = false := by simpa using hp
  rcases aopA_pure hk hap h1 with ⟨k1, k2⟩ | ⟨k1, obj, k2, k3⟩
  ·exact .inl ⟨k1, fun H => h2 _ _ _ (k2 H)⟩
  ·exact .inr ⟨k1, obj, k2, fun H hh => h2 _ _ _ (k3 H hh)⟩
 ·exact .inl ⟨h1, h2⟩

theorem valI_le {i : Nat} (hq : ClQuiet S) (hk : ∀ m, kdAt S rsv ops i = .l m → m = true) (h : valI S rsv ops base i fr H = some (v, H')) : HLe H H' := by
 cases hkd : kdAt S rsv ops i with
 | p => rw [(valI_p hkd h).1]; exact HLe.refl _
 | r => rw [(valI_r_up hkd h).1]; exact HLe.refl _
 | a =>
  rcases valI_a_eff hkd h with rfl | ⟨h1, obj, rfl⟩
  ·exact HLe.refl _
  ·exact HLe.fill h1 _
 | l m =>
  have := hk m hkd
  subst this
  obtain ⟨o, ho, ⟨h1, h2⟩ | ⟨rfl, h1, h2⟩⟩ := valI_some h
  ·rw [runner_own ho (by rw [hkd]; rfl)] at h1
   rw [kdAt_of ho] at hkd
   exact aop_l hkd hq h1
  ·rw [h1]; exact HLe.refl _

/-! ### Runs -/
theorem runI_val_cons {β : Type} {i : Nat} {l : List Nat} {k : Frame → AHeap → Option β} : runI S rsv ops base (i :: l) fr H k = (valI S rsv ops base i fr H).bind fun r => runI S rsv ops base l (put S.nt fr (dstI ops i) r.1) r.2 k := by
 simp only [runI]
 rw [stepI_val]

theorem runI_some_cons {i : Nat} {l : List Nat} (h : runI S rsv ops base (i :: l) fr H ret2 = some (fr', H')) : ∃ v H1, valI S rsv ops base i fr H = some (v, H1) ∧ runI S rsv ops base l (put S.nt fr (dstI ops i) v) H1 ret2 = some (fr', H') := by
 rw [runI_val_cons] at h
 obtain ⟨⟨v, H1⟩, h1, h2⟩ := bind_some' h
 exact ⟨v, H1, h1, h2⟩

theorem runI_append {β : Type} (l2 : List Nat) (k : Frame → AHeap → Option β) : ∀ (l1 : List Nat) (fr : Frame) (H : AHeap), runI S rsv ops base (l1 ++ l2) fr H k = runI S rsv ops base l1 fr H fun fr H => runI S rsv ops base l2 fr H k
 | [], fr, H => rfl
 | i :: l1, fr, H => by
  simp only [List.cons_append]
  rw [runI_val_cons, runI_val_cons]
  congr 1
  funext r
  exact runI_append l2 k l1 _ _

theorem runI_split {l1 l2 : List Nat} (h : runI S rsv ops base (l1 ++ l2) fr H ret2 = some (fr', H')) : ∃ frp Hp, runI S rsv ops base l1 fr H ret2 = some (frp, Hp) ∧ runI S rsv ops base l2 frp Hp ret2 = some (fr', H') := by
 rw [runI_append, runI_bind] at h
 obtain ⟨⟨frp, Hp⟩, h1, h2⟩ := bind_some' h
 exact ⟨frp, Hp, h1, h2⟩

theorem runI_join {l1 l2 : List Nat} {frp : Frame} {Hp : AHeap} (h1 : runI S rsv ops base l1 fr H ret2 = some (frp, Hp)) (h2 : runI S rsv ops base l2 frp Hp ret2 = some (fr', H')) : runI S rsv ops base (l1 ++ l2) fr H ret2 = some (fr', H') := by
 rw [runI_append, runI_bind, h1]
 exact h2

theorem put_put {nt : Nat} {d e : Option Tmp} {x y : Value} (h : ∀ t, d = some t → e ≠ some t) : put nt (put nt fr d x) e y = put nt (put nt fr e y) d x := by
 cases d with
 | none => rfl
 | some d =>
  cases e with
  | none => rfl
  | some e =>
   have hne : d ≠ e := fun q => h d rfl (by rw [q])
   simp only [put]
   split <;> split <;> try rfl
   funext t
   simp only [upd]
   split
   ·rename_i h1
    subst h1
    rw [if_neg (fun q => hne q.symm)]
   ·rfl

theorem put_looks {nt : Nat} {d : Option Tmp} {x : Value} {l : List Tmp} (h : ∀ t, d = some t → t ∉ l) : ∀ t ∈ l, put nt fr d x t = fr t := fun t ht => put_keep fun e => h t e ht

/-- Two operations that neither name what the other yields. -/
def Apart (ops : Array Oper) (i j : Nat) : Prop := (∀ d, dstI ops i = some d → d ∉ looksI ops j) ∧ (∀ d, dstI ops i = some d → dstI ops j ≠ some d) ∧ ∀ d, dstI ops j = some d → d ∉ looksI ops i

theorem runI_put {d : Option Tmp} {x : Value} : ∀ (l : List Nat) {fr fr' : Frame} {H H' : AHeap}, (∀ j ∈ l, (∀ t, d = some t → t ∉ looksI ops j) ∧ ∀ t, dstI ops j = some t → d ≠ some t) →
  runI S rsv ops base l fr H ret2 = some (fr', H') → runI S rsv ops base l (put S.nt fr d x) H ret2 = some (put S.nt fr' d x, H')
 | [], fr, fr', H, H', _, h => by
  simp only [runI, ret2, Option.some.injEq, Prod.mk.injEq] at h ⊢
  obtain ⟨rfl, rfl⟩ := h
  exact ⟨rfl, rfl⟩
 | j :: l, fr, fr', H, H', hd, h => by
  obtain ⟨v, H1, h1, h2⟩ := runI_some_cons h
  have hj := hd j List.mem_cons_self
  rw [runI_val_cons, valI_congr (fr1 := fr) (put_looks hj.1), h1]
  simp only [Option.bind_some]
  rw [← put_put hj.2]
  exact runI_put l (fun i hi => hd i (List.mem_cons_of_mem _ hi)) h2

theorem runI_looks {ks : List Tmp} : ∀ (l : List Nat) {fr fr' : Frame} {H H' : AHeap}, (∀ j ∈ l, ∀ t, dstI ops j = some t → t ∉ ks) →
  runI S rsv ops base l fr H ret2 = some (fr', H') → ∀ t ∈ ks, fr' t = fr t
 | [], fr, fr', H, H', _, h => by
  simp only [runI, ret2, Option.some.injEq, Prod.mk.injEq] at h
  obtain ⟨rfl, rfl⟩ := h
  exact fun _ _ => rfl
 | j :: l, fr, fr', H, H', hd, h => by
  obtain ⟨v, H1, h1, h2⟩ := runI_some_cons h
  intro t ht
  rw [runI_looks l (fun i hi => hd i (List.mem_cons_of_mem _ hi)) h2 t ht]
  exact put_looks (hd j List.mem_cons_self) t ht

theorem runI_le (hq : ClQuiet S) : ∀ (l : List Nat) {fr fr' : Frame} {H H' : AHeap}, (∀ j ∈ l, ∀ m, kdAt S rsv ops j = .l m → m = true) → runI S rsv ops base l fr H ret2 = some (fr', H') → HLe H H'
 | [], fr, fr', H, H', _, h => by
  simp only [runI, ret2, Option.some.injEq, Prod.mk.injEq] at h
  obtain ⟨rfl, rfl⟩ := h
  exact HLe.refl _
 | j :: l, fr, fr', H, H', hd, h => by
  obtain ⟨v, H1, h1, h2⟩ := runI_some_cons h
  exact (valI_le hq (hd j List.mem_cons_self) h1).trans (runI_le hq l (fun i hi => hd i (List.mem_cons_of_mem _ hi)) h2)

/-- What reads only, ahead of what changes. -/
theorem runI_over : ∀ (l : List Nat) {fr fr' : Frame} {H H' : AHeap}, (∀ j ∈ l, kdAt S rsv ops j = .p ∨ (kdAt S rsv ops j = .r ∧ HLe H H1)) → runI S rsv ops base l fr H ret2 = some (fr', H') →
  H' = H ∧ runI S rsv ops base l fr H1 ret2 = some (fr', H1)
 | [], fr, fr', H, H', _, h => by
  simp only [runI, ret2, Option.some.injEq, Prod.mk.injEq] at h ⊢
  exact ⟨h.2.symm, h.1, trivial⟩
 | j :: l, fr, fr', H, H', hd, h => by
  obtain ⟨v, H2, h1, h2⟩ := runI_some_cons h
  have hj := hd j List.mem_cons_self
  have key : H2 = H ∧ valI S rsv ops base j fr H1 = some (v, H1) := by
   rcases hj with hk | ⟨hk, hl⟩
   ·obtain ⟨a, b⟩ := valI_p hk h1; exact ⟨a, b H1⟩
   ·obtain ⟨a, b⟩ := valI_r_up hk h1; exact ⟨a, b H1 hl⟩
  obtain ⟨rfl, k2⟩ := key
  obtain ⟨k3, k4⟩ := runI_over l (fun i hi => hd i (List.mem_cons_of_mem _ hi)) h2
  refine ⟨k3, ?_⟩
  rw [runI_val_cons, k2]
  exact k4

theorem ovl_one {H : AHeap} {id : Nat} {o : AObj} : ovl (fun _ => o) (fun i => i == id) H = H.set id o := by
 apply List.ext_getElem?
 intro i
 rw [ovl_get?]
 by_cases hi : i = id
 ·subst hi
  by_cases hl : i < H.length
  ·rw [List.getElem?_set_self hl, List.getElem?_eq_getElem hl]; simp
  ·rw [List.getElem?_eq_none (by simpa using hl), List.getElem?_eq_none (by simpa using hl)]; rfl
 ·rw [List.getElem?_set_ne (fun e => hi e.symm)]
  cases H[i]? <;> simp [hi]

/-! ### A load and a store that go to two objects -/
def loadAt (ops : Array Oper) (j : Nat) : Option Tmp := (ops[j]?).bind fun o => loadAddr o.op
def storeAt (ops : Array Oper) (i : Nat) : Option Tmp := (ops[i]?).bind fun o => storeAddr o.op
theorem loadAt_kd {j : Nat} {a : Tmp} (h : loadAt ops j = some a) : kdAt S rsv ops j = .r ∧ ∃ o t, ops[j]? = some o ∧ o.op = .load t (.tmp a) := by
 unfold loadAt at h
 cases ho : ops[j]? with
 | none => rw [ho] at h; cases h
 | some o =>
  rw [ho] at h
  simp only [Option.bind_some, loadAddr] at h
  split at h
  ·rename_i t t' hop
   cases h
   exact ⟨by rw [kdAt_of ho, hop]; rfl, o, t, rfl, hop⟩
  ·cases h
theorem storeAt_op {i : Nat} {b : Tmp} (h : storeAt ops i = some b) : kdAt S rsv ops i = .l false ∧ ∃ o t x, ops[i]? = some o ∧ o.op = .store t (.tmp b) x := by
 unfold storeAt at h
 cases ho : ops[i]? with
 | none => rw [ho] at h; cases h
 | some o =>
  rw [ho] at h
  simp only [Option.bind_some, storeAddr] at h
  split at h
  ·rename_i t t' x hop
   cases h
   exact ⟨by rw [kdAt_of ho, hop]; rfl, o, t, x, rfl, hop⟩
  ·cases h
theorem getCells_far {id x L off n : Nat} {obj : AObj} (h : x ≠ id) : getCells (H.set id obj) x L off n = getCells H x L off n := by
 unfold getCells
 rw [List.getElem?_set_ne (fun e => h e.symm)]
theorem valI_far {j : Nat} {a : Tmp} (hl : loadAt ops j = some a) {x off L id : Nat} {obj : AObj} (hf : fr a = .pointer (some ⟨x, off, some L⟩)) (hne : x ≠ id) (h : valI S rsv ops base j fr H = some (v, H')) :
  H' = H ∧ valI S rsv ops base j fr (H.set id obj) = some (v, H.set id obj) := by
 obtain ⟨hk, o, t, ho, hop⟩ := loadAt_kd (S := S) (rsv := rsv) hl
 obtain ⟨o', ho', hc⟩ := valI_some h
 rw [ho] at ho'
 cases ho'
 rcases hc with ⟨h1, h2⟩ | ⟨rfl, rfl, h2⟩
 ·have hr := runner_own (base := base) ho (show isA (kdAt S rsv ops j) = false by rw [hk]; rfl)
  rw [hr, hop] at h1
  simp only [aop, aeval] at h1
  obtain ⟨h3, rfl⟩ := quiet_some h1
  refine ⟨rfl, h2 _ _ _ ?_⟩
  rw [hr, hop]
  simp only [aop, aeval]
  rw [hf] at h3 ⊢
  have : aload S.P t (.pointer (some ⟨x, off, some L⟩)) (H'.set id obj) = aload S.P t (.pointer (some ⟨x, off, some L⟩)) H' := by
   simp only [aload, getCells_far hne]
  rw [this, h3]
  rfl
 ·exact ⟨rfl, h2 _⟩
theorem valI_store {i : Nat} {b : Tmp} (hs : storeAt ops i = some b) {y off L : Nat} (hf : fr b = .pointer (some ⟨y, off, some L⟩)) (h : valI S rsv ops base i fr H = some (v, H')) : H' = H ∨ ∃ obj, H' = H.set y obj := by
 obtain ⟨hk, o, t, x, ho, hop⟩ := storeAt_op (S := S) (rsv := rsv) hs
 obtain ⟨o', ho', hc⟩ := valI_some h
 rw [ho] at ho'
 cases ho'
 rcases hc with ⟨h1, h2⟩ | ⟨rfl, rfl, h2⟩
 ·have hr := runner_own (base := base) ho (show isA (kdAt S rsv ops i) = false by rw [hk]; rfl)
  rw [hr, hop] at h1
  simp only [aop] at h1
  obtain ⟨h3, _⟩ := effect_some h1
  rw [show aeval fr (.tmp b) = fr b from rfl, hf] at h3
  generalize aeval fr x = vx at h3
  simp only [astore] at h3
  split at h3
  case h_2 => cases h3
  split at h3
  case isFalse => cases h3
  unfold setCells at h3
  split at h3
  case h_2 => cases h3
  split at h3
  case isFalse => cases h3
  exact .inr ⟨_, (Option.some.inj h3).symm⟩
 ·exact .inl rfl
def FarL (S : Sys) (rsv : Bool) (ops : Array Oper) (H H1 : AHeap) (frp : Frame) (id : Nat) : List Nat → Prop
 | [] => True
 | j :: l => (kdAt S rsv ops j = .p ∨ (kdAt S rsv ops j = .r ∧ HLe H H1) ∨ ∃ a x off L, loadAt ops j = some a ∧ frp a = .pointer (some ⟨x, off, some L⟩) ∧ x ≠ id ∧ ∀ k ∈ j :: l, dstI ops k ≠ some a) ∧ FarL S rsv ops H H1 frp id l
theorem runI_overS {id : Nat} {obj : AObj} : ∀ (l : List Nat) {fr frp : Frame} {H H' : AHeap}, FarL S rsv ops H (H.set id obj) frp id l → runI S rsv ops base l fr H ret2 = some (frp, H') →
  H' = H ∧ runI S rsv ops base l fr (H.set id obj) ret2 = some (frp, H.set id obj)
 | [], fr, fr', H, H', _, h => by
  simp only [runI, ret2, Option.some.injEq, Prod.mk.injEq] at h ⊢
  exact ⟨h.2.symm, h.1, trivial⟩
 | j :: l, fr, frp, H, H', hd, h => by
  have hall := h
  obtain ⟨v, H2, h1, h2⟩ := runI_some_cons h
  obtain ⟨hj, hd2⟩ := hd
  have key : H2 = H ∧ valI S rsv ops base j fr (H.set id obj) = some (v, H.set id obj) := by
   rcases hj with hk | ⟨hk, hl⟩ | ⟨a, x, off, L, hl, hf, hne, hw⟩
   ·obtain ⟨a, b⟩ := valI_p hk h1; exact ⟨a, b _⟩
   ·obtain ⟨a, b⟩ := valI_r_up hk h1; exact ⟨a, b _ hl⟩
   ·refine valI_far (off := off) (L := L) hl ?_ hne h1
    rw [← runI_looks (ks := [a]) (j :: l) (fun k hk t ht hm => by
     rw [List.mem_singleton] at hm
     subst hm
     exact hw k hk ht) hall a (by simp)]
    exact hf
  obtain ⟨rfl, k2⟩ := key
  obtain ⟨k3, k4⟩ := runI_overS l hd2 h2
  refine ⟨k3, ?_⟩
  rw [runI_val_cons, k2]
  exact k4
/-- What is known of a load that stands ahead of a store. -/
def FarPair (ops : Array Oper) (fr' : Frame) (pre post : List Nat) (i j : Nat) : Prop :=
 ∃ a b x ox Lx y oy Ly, loadAt ops j = some a ∧ storeAt ops i = some b ∧ fr' a = .pointer (some ⟨x, ox, some Lx⟩) ∧ fr' b = .pointer (some ⟨y, oy, some Ly⟩) ∧ x ≠ y ∧
  (∀ k ∈ pre ++ i :: post, dstI ops k ≠ some b) ∧ ∀ p1 p2, pre = p1 ++ j :: p2 → ∀ k ∈ j :: (p2 ++ i :: post), dstI ops k ≠ some a

/-- An operation is taken ahead of those that it need not stand after. -/
theorem exchange (hq : ClQuiet S) (hov : ClOvl S.cl) {pre post : List Nat} {i : Nat} (h : runI S rsv ops base (pre ++ i :: post) fr H ret2 = some (fr', H'))
  (hp : ∀ j ∈ pre, (pairOk (kdAt S rsv ops j) (kdAt S rsv ops i) = true ∨ pureA S rsv ops i = true ∨ FarPair ops fr' pre post i j) ∧ Apart ops j i) (hv : ∀ x, HeadOK H (aeval fr x))
  (hh : kdAt S rsv ops i = .a → H[base + rankA S ops i]? = some .hole) (hd : ∀ j ∈ pre, isA (kdAt S true ops j) = true → kdAt S rsv ops i = .a → rankA S ops j ≠ rankA S ops i) :
  ∃ v H1, valI S rsv ops base i fr H = some (v, H1) ∧ runI S rsv ops base (pre ++ post) (put S.nt fr (dstI ops i) v) H1 ret2 = some (fr', H') := by
 obtain ⟨frp, Hp, h1, h2⟩ := runI_split h
 obtain ⟨v, H2, h3, h4⟩ := runI_some_cons h2
 rw [valI_congr (fr1 := fr) (runI_looks pre (fun j hj => (hp j hj).2.1) h1)] at h3
 have hput : ∀ {X Y : AHeap}, runI S rsv ops base pre fr X ret2 = some (frp, Y) → runI S rsv ops base pre (put S.nt fr (dstI ops i) v) X ret2 = some (put S.nt frp (dstI ops i) v, Y) := fun hX =>
  runI_put pre (fun j hj => ⟨(hp j hj).2.2.2, fun t ht => (hp j hj).2.2.1 t ht⟩) hX
 have free : (∀ X, valI S rsv ops base i fr X = some (v, X)) → H2 = Hp → ∃ v H1, valI S rsv ops base i fr H = some (v, H1) ∧ runI S rsv ops base (pre ++ post) (put S.nt fr (dstI ops i) v) H1 ret2 = some (fr', H') := fun hall he =>
  ⟨v, H, hall H, runI_join (hput h1) (by rw [he] at h4; exact h4)⟩
 have noFar : pureA S rsv ops i = false → kdAt S rsv ops i ≠ .l false → ∀ j ∈ pre, pairOk (kdAt S rsv ops j) (kdAt S rsv ops i) = true := fun hpu hne j hj => by
  rcases (hp j hj).1 with h | h | ⟨a, b, x, ox, Lx, y, oy, Ly, _, g2, _⟩
  ·exact h
  ·rw [hpu] at h; cases h
  ·exact absurd (storeAt_op g2).1 hne
 have notPure : isA (kdAt S rsv ops i) = false → pureA S rsv ops i = false := fun h => by unfold pureA; rw [h]; rfl
 cases hk : kdAt S rsv ops i with
 | p =>
  obtain ⟨k1, k2⟩ := valI_p hk h3
  exact free k2 k1
 | r =>
  have hle : HLe H Hp := runI_le hq pre (fun j hj m hm => by
   have := noFar (notPure (by rw [hk]; rfl)) (by rw [hk]; intro e; cases e) j hj
   rw [hm, hk] at this
   exact this) h1
  obtain ⟨k1, k2⟩ := valI_r_dn hk h3 hle hv
  rw [k1] at h4
  exact ⟨v, H, k2, runI_join (hput h1) h4⟩
 | a =>
  have key : (H2 = Hp ∧ valI S rsv ops base i fr H = some (v, H)) ∨
    (Hp[base + rankA S ops i]? = some .hole ∧ ∃ obj, H2 = Hp.set (base + rankA S ops i) obj ∧ (H[base + rankA S ops i]? = some .hole → valI S rsv ops base i fr H = some (v, H.set (base + rankA S ops i) obj))) := by
   cases hpu : pureA S rsv ops i with
   | true =>
    rcases valI_pure hpu h3 with ⟨k1, k2⟩ | ⟨k1, obj, k2, k3⟩
    ·exact .inl ⟨k1, k2 H⟩
    ·exact .inr ⟨k1, obj, k2, k3 H⟩
   | false =>
    have hle : HLe H Hp := runI_le hq pre (fun j hj m hm => by
     have := noFar hpu (by rw [hk]; intro e; cases e) j hj
     rw [hm, hk] at this
     exact this) h1
    exact valI_a hk h3 hle hv
  rcases key with ⟨k1, k2⟩ | ⟨k1, obj, k2, k3⟩
  ·exact ⟨v, H, k2, runI_join (hput h1) (by rw [k1] at h4; exact h4)⟩
  ·have hhole := hh hk
   have hHol : Hol (fun x => x == base + rankA S ops i) H := fun x hx => by
    have : x = base + rankA S ops i := by simpa using hx
    rw [this]; exact hhole
   obtain ⟨g1, _⟩ := runI_ovl (F := fun _ => obj) hov pre (fun j hj _ ha => by
    have := hd j hj ha hk
    simp only [beq_eq_false_iff_ne, ne_eq]
    omega) hHol h1
   rw [ovl_one, ovl_one] at g1
   rw [k2] at h4
   exact ⟨v, _, k3 hhole, runI_join (hput g1) h4⟩
 | l m =>
  have kdj : ∀ j ∈ pre, kdAt S rsv ops j = .p ∨ (kdAt S rsv ops j = .r ∧ (m = true ∨ FarPair ops fr' pre post i j)) := fun j hj => by
   rcases (hp j hj).1 with this | this | this
   ·rw [hk] at this
    cases hkj : kdAt S rsv ops j with
    | p => exact .inl rfl
    | r => rw [hkj] at this; exact .inr ⟨rfl, .inl this⟩
    | a => rw [hkj] at this; cases this
    | l x => rw [hkj] at this; cases this
   ·rw [notPure (by rw [hk]; rfl)] at this; cases this
   ·obtain ⟨a, b, x, ox, Lx, y, oy, Ly, g1, _⟩ := id this
    exact .inr ⟨(loadAt_kd g1).1, .inr this⟩
  obtain ⟨e1, _⟩ := runI_over (H1 := H) pre (fun j hj => (kdj j hj).imp id fun h => ⟨h.1, HLe.refl H⟩) h1
  subst e1
  have hm2 : m = true → HLe H2 H2 ∧ HLe Hp H2 := fun hm => ⟨HLe.refl _, valI_le hq (fun m' hm' => by rw [hk] at hm'; cases hm'; exact hm) h3⟩
  have g2 : runI S rsv ops base pre fr H2 ret2 = some (frp, H2) := by
   by_cases hex : ∃ j ∈ pre, FarPair ops fr' pre post i j
   ·obtain ⟨j0, hj0, a0, b, x0, ox0, Lx0, y, oy, Ly, _, hsb, _, hfb, _, hwb, _⟩ := hex
    have hmf : m = false := by
     have := (storeAt_op (S := S) (rsv := rsv) hsb).1
     rw [hk] at this; cases this; rfl
    have hfr : fr b = fr' b := by
     rw [runI_looks (ks := [b]) (pre ++ i :: post) (fun k hk t ht hm => by
      rw [List.mem_singleton] at hm
      subst hm
      exact hwb k hk ht) h b (by simp)]
    rcases valI_store hsb (by rw [hfr]; exact hfb) h3 with rfl | ⟨obj, rfl⟩
    ·exact h1
    ·have hF : ∀ p1 p2, pre = p1 ++ p2 → FarL S rsv ops Hp (Hp.set y obj) frp y p2 := by
      intro p1 p2
      induction p2 generalizing p1 with
      | nil => intro _; trivial
      | cons j p2 ih =>
       intro e
       refine ⟨?_, ih (p1 ++ [j]) (by rw [e]; simp)⟩
       have hj : j ∈ pre := by rw [e]; simp
       rcases kdj j hj with h0 | ⟨h0, hc | hc⟩
       ·exact .inl h0
       ·rw [hmf] at hc; cases hc
       ·obtain ⟨a, b', x, ox, Lx, y', oy', Ly', g1, g2, g3, g4, g5, _, g7⟩ := hc
        rw [hsb] at g2; cases g2
        rw [hfb] at g4; cases g4
        have hw := g7 p1 p2 e
        refine .inr (.inr ⟨a, x, ox, Lx, g1, ?_, g5, fun k hk => hw k (by
         rcases List.mem_cons.1 hk with rfl | hk
         ·exact List.mem_cons_self
         ·exact List.mem_cons_of_mem _ (List.mem_append_left _ hk))⟩)
        rw [← runI_looks (ks := [a]) (i :: post) (fun k hk t ht hm => by
         rw [List.mem_singleton] at hm
         subst hm
         exact hw k (List.mem_cons_of_mem _ (List.mem_append_right _ hk)) ht) h2 a (by simp)]
        exact g3
     exact (runI_overS pre (hF [] pre rfl) h1).2
   ·exact (runI_over (H1 := H2) pre (fun j hj => (kdj j hj).imp id fun h => ⟨h.1, (hm2 (h.2.resolve_right fun hf => hex ⟨j, hj, hf⟩)).2⟩) h1).2
  exact ⟨v, H2, h3, runI_join (hput g2) h4⟩
end
end Go.Proofs.Ythjkodbinkiifaa.Am
namespace Go.Proofs.Ythjkodbinkiifaa.Am
open Go Go.RowKit

/-! ### Which operations must stand ahead -/
theorem maskFold (ms : List Nat) (i : Nat) : ∀ (l : List Nat) (m : Nat), (l.foldl (fun m j => m ||| 2 ^ j ||| ms.getD j 0) m).testBit i = true ↔ m.testBit i = true ∨ ∃ b ∈ l, b = i ∨ (ms.getD b 0).testBit i = true
 | [], m => by simp
 | j :: l, m => by
  simp only [List.foldl_cons]
  rw [maskFold ms i l]
  simp only [Nat.testBit_or, Bool.or_eq_true, Nat.testBit_two_pow, decide_eq_true_eq, List.mem_cons, exists_eq_or_imp]
  simp only [or_assoc]

theorem masksGo_old : ∀ (os : List Oper) (ms : List Nat) (i : Nat), i < ms.length → (masksGo os ms).getD i 0 = ms.getD i 0
 | [], ms, i, _ => rfl
 | o :: os, ms, i, h => by
  simp only [masksGo]
  rw [masksGo_old os _ i (by simp; omega)]
  simp only [List.getD_eq_getElem?_getD]
  rw [List.getElem?_append_left h]
theorem maskFold_congr {ms ms2 : List Nat} : ∀ (l : List Nat) (m : Nat), (∀ j ∈ l, ms.getD j 0 = ms2.getD j 0) → l.foldl (fun m j => m ||| 2 ^ j ||| ms.getD j 0) m = l.foldl (fun m j => m ||| 2 ^ j ||| ms2.getD j 0) m
 | [], m, _ => rfl
 | j :: l, m, h => by
  simp only [List.foldl_cons]
  rw [h j List.mem_cons_self]
  exact maskFold_congr l _ fun i hi => h i (List.mem_cons_of_mem _ hi)

theorem masksGo_new : ∀ (os : List Oper) (ms : List Nat) (k : Nat) (o : Oper), os[k]? = some o → (∀ b ∈ binding o, b < ms.length + k) →
  (masksGo os ms).getD (ms.length + k) 0 = (binding o).foldl (fun m j => m ||| 2 ^ j ||| (masksGo os ms).getD j 0) 0
 | [], ms, k, o, h, _ => by simp at h
 | x :: os, ms, 0, o, h, hb => by
  simp at h
  subst h
  simp only [masksGo, Nat.add_zero]
  rw [masksGo_old os _ ms.length (by simp)]
  simp only [List.getD_eq_getElem?_getD, List.getElem?_append_right (Nat.le_refl _), Nat.sub_self, List.getElem?_cons_zero, Option.getD_some]
  show maskStep ms x = _
  conv => lhs; unfold maskStep
  have := @maskFold_congr ms (masksGo os (ms ++ [maskStep ms x])) (binding x) 0 (fun j hj => by
   have hjl : j < ms.length := by simpa using hb j hj
   rw [masksGo_old os _ j (by simp; omega)]
   simp only [List.getD_eq_getElem?_getD]
   rw [List.getElem?_append_left hjl])
  simpa only [List.getD_eq_getElem?_getD] using this
 | x :: os, ms, k + 1, o, h, hb => by
  simp only [masksGo]
  have := masksGo_new os (ms ++ [maskStep ms x]) k o (by simpa using h) (fun b hbb => by have := hb b hbb; simp; omega)
  simp only [List.length_append, List.length_cons, List.length_nil] at this
  rw [show ms.length + (k + 1) = ms.length + (0 + 1) + k by omega]
  exact this

theorem masks_bit {ops : Array Oper} {i : Nat} {o : Oper} (ho : ops[i]? = some o) (hb : ∀ b ∈ binding o, b < i) (j : Nat) :
  ((masks ops).getD i 0).testBit j = true ↔ ∃ b ∈ binding o, b = j ∨ ((masks ops).getD b 0).testBit j = true := by
 have := masksGo_new ops.toList [] i o (by simpa using ho) (by simpa using hb)
 simp only [List.length_nil, Nat.zero_add] at this
 unfold masks
 rw [this, maskFold]
 simp
end Go.Proofs.Ythjkodbinkiifaa.Am
namespace Go.Proofs.Ythjkodbinkiifaa.Am
open Go Go.RowKit

/-- What the machine's soundness rests on, of a system. -/
structure Good (w0 : World) (S : Sys) : Prop where
 cl : ClSound S.P w0 S.cl
 en : Entered S.P S.cl
 ext : ExtSound S.P S.ext
 mixed : S.P.follows .mixedOrders = true
 quiet : ClQuiet S
 ovl : ClOvl S.cl

section
variable {w0 : World} {S : Sys}

theorem yielded_bool {μ : PMap} {fr : Frame} {a : Act} {ops : Array Oper} {j : Nat} {b : Bool} (hfr : FrRel μ S.nt fr a) (h : guardVal ops fr j = .bool b) : yielded ops a.tmps j = some b := by
 unfold guardVal at h
 unfold yielded
 cases hd : (ops[j]?).bind (·.dst) with
 | none => rw [hd] at h; cases h
 | some d =>
  rw [hd] at h
  simp only at h
  have hv := hfr.2 d
  rw [h] at hv
  have hv' := hv.bool_inv
  have : a.tmps[d]? = some (.bool b) := by
   rw [Array.getD_eq_getD_getElem?] at hv'
   cases hq : a.tmps[d]? with
   | none => rw [hq] at hv'; cases hv'
   | some q => rw [hq] at hv'; simpa using hv'
  simp [this]

theorem yielded_not {μ : PMap} {fr : Frame} {a : Act} {ops : Array Oper} {j : Nat} {x : Value} (hfr : FrRel μ S.nt fr a) (h : guardVal ops fr j = .tuple #[x]) : yielded ops a.tmps j = none := by
 unfold guardVal at h
 unfold yielded
 cases hd : (ops[j]?).bind (·.dst) with
 | none => rfl
 | some d =>
  rw [hd] at h
  simp only at h
  have hv := hfr.2 d
  rw [h] at hv
  have hv' : ∃ cs, a.tmps.getD d undef = .tuple cs := by
   generalize a.tmps.getD d undef = u at hv
   cases hv with
   | skipped => exact ⟨_, rfl⟩
   | base v hp => simp [plain0] at hp
   | tuple => exact ⟨_, rfl⟩
  obtain ⟨cs, hcs⟩ := hv'
  simp only [Option.bind_some]
  cases hq : a.tmps[d]? with
  | none => rfl
  | some q =>
   have : q = .tuple cs := by
    rw [Array.getD_eq_getD_getElem?, hq] at hcs
    simpa using hcs
   rw [this]

theorem step_wp (G : Good w0 S) {μ : PMap} {H H' : AHeap} {w : World} {fr fr' : Frame} {a : Act} {ops : Array Oper} {i : Nat} {o : Oper} {Q : Exit → Act → World → Prop} {K : Act → World → Prop} (ho : ops[i]? = some o)
  (h : stepOp S ops o fr H ret2 = some (fr', H')) (hS : Sim S.P w0 μ H w) (hfr : FrRel μ S.nt fr a)
  (hK : ∀ μ' a' w', Sub μ μ' → Sim S.P w0 μ' H' w' → FrRel μ' S.nt fr' a' → a'.defers = a.defers → K a' w') : wpOp S.P ops Q i K a w := by
 unfold wpOp
 rw [ho]
 simp only
 obtain ⟨v, rfl, hcase⟩ := stepOp_some h
 have run : aop S o.op fr H = some (v, H') → o.wp S.P a w K Q := fun hr =>
  aop_wp G.cl G.en G.ext hr hS hfr fun μ' v' w' h1 h2 h3 => hK μ' _ w' h1 h3 ((hfr.mono h1).put h2) (by cases o.dst <;> rfl)
 rcases hcase with ⟨hg, hr⟩ | ⟨j, want, b, hg, hb, rfl, hr⟩ | ⟨j, want, hg, hb, rfl, rfl⟩
 ·have hw : Region.wanted o (yielded ops a.tmps) = true := by simp [Region.wanted, hg]
  rw [hw]
  exact .inl (run hr)
 ·have hw : Region.wanted o (yielded ops a.tmps) = true := by simp [Region.wanted, hg, yielded_bool hfr hb]
  rw [hw]
  exact .inl (run hr)
 ·have hw : Region.wanted o (yielded ops a.tmps) = false := by
   rcases hb with hb | ⟨x, hb⟩
   ·simp [Region.wanted, hg, yielded_bool hfr hb]
   ·simp [Region.wanted, hg, yielded_not hfr hb]
  rw [hw]
  simp only [Bool.false_eq_true, if_false]
  exact hK μ _ w (Sub.refl μ) hS (hfr.put .skipped) (by cases o.dst <;> rfl)


theorem aopA_wp (G : Good w0 S) {μ : PMap} {H H' : AHeap} {w : World} {fr : Frame} {a : Act} {o : Oper} {hid : Nat} {v : Value} {Q : Exit → Act → World → Prop} {K : Act → World → Prop} (hk : opKd S true o.op = .a)
  (h : aopA S hid o.op fr H = some (v, H')) (hS : Sim S.P w0 μ H w) (hfr : FrRel μ S.nt fr a)
  (hK : ∀ μ' v' w', Sub μ μ' → VRel μ' v v' → Sim S.P w0 μ' H' w' → K (a.put o.dst v') w') : o.wp S.P a w K Q := by
 have ev := hfr.eval
 have h00 := h
 unfold aopA at h
 split at h
 case isFalse => cases h
 rename_i hfb
 obtain ⟨⟨v1, H1⟩, h1, h2⟩ := bind_some' h
 dsimp only at h2
 have made : ∀ {s : Sem Value}, (∃ ob L m b v' mk, Makes S.P w0 μ w H v1 H1 s ob L m b v' mk) → execOp a.eval o = (do pure (.value (← s))) → o.wp S.P a w K Q := by
  rintro s ⟨ob, L, m, b, v', mk, hm⟩ he
  have e1 := hm.heap
  have e2 := hm.val
  subst e1
  rw [append_get.1] at h2
  split at h2
  ·rename_i obj q1 q2
   cases q1
   simp only [Option.some.injEq, Prod.mk.injEq] at h2
   obtain ⟨rfl, rfl⟩ := h2
   have hlt := (List.getElem?_eq_some_iff.1 q2).1
   have hfresh : ∀ K, μ hid K = none := fun K => by
    cases hc : μ hid K with
    | none => rfl
    | some p => exact absurd q2 (hS.nohole hid K p hc)
   have hd := hm.at_ hS hid (H.set hid ob) hfresh (List.getElem?_set_self hlt) (fun id hne => List.getElem?_set_ne (fun e => hne e.symm)) (by simp)
   refine wp_of_does hd he ?_
   rw [e2, hm.ren] at hK
   exact hK
  ·rename_i q; cases q
  ·cases h2
 cases hop : o.op with
 | alloc e => rw [hop] at h1; exact made (aalloc_makes hS h1) (by simp [execOp, hop])
 | box e x => rw [hop] at h1; exact made (abox_makes hS h1 (ev x)) (by simp [execOp, hop])
 | buildSlice t n ps =>
  rw [hop] at h1
  rcases abuildSlice_makes hS h1 (parts_rel (a := a) hfr ps) with ⟨rfl, _, hd⟩ | hm
  ·have hn : H1[H1.length]? = none := List.getElem?_eq_none (Nat.le_refl _)
   rw [hn] at h2
   simp only [Option.some.injEq, Prod.mk.injEq] at h2
   obtain ⟨rfl, rfl⟩ := h2
   exact wp_of_does hd (by simp [execOp, hop]) hK
  ·exact made hm (by simp [execOp, hop])
 | makeSlice t l c => rw [hop] at h1; exact made (amakeSlice_makes hS h1 (ev l) (ev c)) (by simp [execOp, hop])
 | makeMap t r =>
  cases r with
  | none => rw [hop] at h1; exact made (amakeMap_makes (t := t) hS h1) (by simp [execOp, hop])
  | some r => rw [hop] at hk; cases hk
 | call c =>
  rw [hop] at hk
  obtain ⟨callee, args, ts⟩ := c
  cases callee with
  | builtin b =>
   cases b <;> simp only [opKd] at hk <;> first | (cases hk; done) | skip
   rw [hop] at h1 hfb
   obtain ⟨t, t', x, y, ea, eb, ex, ey, hmem, hb, h3, _⟩ := append_parts rfl hfb h1
   simp only [aop] at h1
   obtain ⟨t2, t2', x2, y2, hts, hxy, h4⟩ := abuiltin_append h1
   have hargs := hfr.evals args
   rw [hxy] at hargs
   have hts' : ts = #[t2, t2'] := by apply Array.ext'; simpa using hts
   subst hts'
   have hfirst : x2 = .slice none 0 0 ∨ x2 = .slice (some ⟨0, 0, none⟩) 0 0 := by
    simp only [freshBase] at hfb
    rw [hxy] at hfb
    split at hfb
    ·rename_i hh; injection hh with h1 _; exact .inl h1
    ·rename_i hh; injection hh with h1 _; exact .inr h1
    ·cases hfb
   match hm : (args.map a.eval).toList, hargs with
   | [x', y'], hargs =>
    have hm' : args.map a.eval = #[x', y'] := by apply Array.ext'; simpa using hm
    have hex : execOp a.eval o = (do pure (.value (← Builtin.append_ #[t2, t2'] o.type #[x', y']))) := by simp [execOp, hop, resolve, invoke, builtin, hm']
    rcases aappend_hole (ty := o.type) hS h4 hfirst (hargs.2 0 x2 x' rfl rfl) (hargs.2 1 y2 y' rfl rfl) with ⟨rfl, hd⟩ | ⟨obj, mk, rfl, rfl, hren, hd⟩
    ·have hn : H1[H1.length]? = none := List.getElem?_eq_none (Nat.le_refl _)
     rw [hn] at h2
     simp only [Option.some.injEq, Prod.mk.injEq] at h2
     obtain ⟨rfl, rfl⟩ := h2
     exact wp_of_does hd hex hK
    ·rw [append_get.1] at h2
     split at h2
     ·rename_i obj' q1 q2
      cases q1
      simp only [Option.some.injEq, Prod.mk.injEq] at h2
      obtain ⟨rfl, rfl⟩ := h2
      have hlt := (List.getElem?_eq_some_iff.1 q2).1
      have hfresh : ∀ K, μ hid K = none := fun K => by
       cases hc : μ hid K with
       | none => rfl
       | some p => exact absurd q2 (hS.nohole hid K p hc)
      rw [hren] at hK
      exact wp_of_does (hd hid hfresh hlt) hex hK
     ·rename_i q; cases q
     ·cases h2
  | value f => cases f <;> simp only [opKd] at hk <;> cases hk
  | invoke r m => cases hk
 | _ => rw [hop] at hk; first | cases hk | (simp only [opKd] at hk; split at hk <;> cases hk)

theorem stepI_wp (G : Good w0 S) {rsv : Bool} {base : Nat} {μ : PMap} {H H' : AHeap} {w : World} {fr fr' : Frame} {a : Act} {ops : Array Oper} {i : Nat} {Q : Exit → Act → World → Prop} {K : Act → World → Prop}
  (h : stepI S rsv ops base i fr H ret2 = some (fr', H')) (hS : Sim S.P w0 μ H w) (hfr : FrRel μ S.nt fr a)
  (hK : ∀ μ' a' w', Sub μ μ' → Sim S.P w0 μ' H' w' → FrRel μ' S.nt fr' a' → a'.defers = a.defers → K a' w') : wpOp S.P ops Q i K a w := by
 obtain ⟨o, v, ho, rfl, hcase⟩ := stepI_some h
 unfold wpOp
 rw [ho]
 simp only
 have fin : ∀ μ' v' w', Sub μ μ' → VRel μ' v v' → Sim S.P w0 μ' H' w' → K (a.put o.dst v') w' := fun μ' v' w' h1 h2 h3 => hK μ' _ w' h1 h3 ((hfr.mono h1).put h2) (by cases o.dst <;> rfl)
 have run : runnerI S rsv ops base i o.op fr H = some (v, H') → o.wp S.P a w K Q := fun hr => by
  unfold runnerI at hr
  split at hr
  ·rename_i hc
   simp only [Bool.and_eq_true] at hc
   refine aopA_wp G ?_ hr hS hfr fin
   have := hc.2
   rw [kdAt_of ho] at this
   cases hk : opKd S true o.op <;> rw [hk] at this <;> first | rfl | cases this
  ·exact aop_wp G.cl G.en G.ext hr hS hfr fin
 rcases hcase with ⟨hg, hr⟩ | ⟨j, want, b, hg, hb, rfl, hr⟩ | ⟨j, want, hg, hb, rfl, rfl⟩
 ·have hw : Region.wanted o (yielded ops a.tmps) = true := by simp [Region.wanted, hg]
  rw [hw]
  exact .inl (run hr)
 ·have hw : Region.wanted o (yielded ops a.tmps) = true := by simp [Region.wanted, hg, yielded_bool hfr hb]
  rw [hw]
  exact .inl (run hr)
 ·have hw : Region.wanted o (yielded ops a.tmps) = false := by
   rcases hb with hb | ⟨x, hb⟩
   ·simp [Region.wanted, hg, yielded_bool hfr hb]
   ·simp [Region.wanted, hg, yielded_not hfr hb]
  rw [hw]
  simp only [Bool.false_eq_true, if_false]
  exact hK μ _ w (Sub.refl μ) hS (hfr.put .skipped) (by cases o.dst <;> rfl)
end
end Go.Proofs.Ythjkodbinkiifaa.Am
namespace Go.Proofs.Ythjkodbinkiifaa.Am
open Go Go.RowKit

theorem allPairs_iff (f : Nat → Nat → Bool) : ∀ l : List Nat, allPairs f l = true ↔ l.Pairwise (fun i j => f i j = true)
 | [] => by simp [allPairs]
 | i :: l => by simp [allPairs, allPairs_iff f l]

theorem range_split {i k : Nat} (h : i ≤ k) : List.range k = List.range i ++ List.range' i (k - i) := by
 have := @List.range'_append_1 0 i (k - i)
 rw [Nat.zero_add, show i + (k - i) = k by omega] at this
 rw [List.range_eq_range', List.range_eq_range', this]
theorem noDup_nodup : ∀ l : List Nat, noDup l = true → l.Nodup
 | [], _ => List.nodup_nil
 | x :: xs, h => by
  simp only [noDup, Bool.and_eq_true, Bool.not_eq_true', List.contains_eq_mem, decide_eq_false_iff_not] at h
  exact List.nodup_cons.2 ⟨h.1, noDup_nodup xs h.2⟩

theorem rank_lt {S : Sys} {ops : Array Oper} {i k : Nat} (h : i < k) (ha : isA (kdAt S true ops i) = true) : rankA S ops i < rankA S ops k := by
 unfold rankA
 rw [range_split (by omega : i ≤ k), List.filter_append, List.length_append]
 have : i ∈ (List.range' i (k - i)).filter fun j => isA (kdAt S true ops j) := List.mem_filter.2 ⟨List.mem_range'.2 ⟨0, by omega, by omega⟩, ha⟩
 have := List.length_pos_of_mem this
 omega
theorem rank_ne {S : Sys} {ops : Array Oper} {i k : Nat} (h : i ≠ k) (hi : isA (kdAt S true ops i) = true) (hk : isA (kdAt S true ops k) = true) : rankA S ops i ≠ rankA S ops k := by
 rcases Nat.lt_or_gt_of_ne h with h | h
 ·have := rank_lt h hi; omega
 ·have := rank_lt h hk; omega

theorem isA_true_of {S : Sys} {rsv : Bool} {ops : Array Oper} {i : Nat} (h : kdAt S rsv ops i = .a) : isA (kdAt S true ops i) = true := by
 have := kd_a_rsv h
 subst this
 rw [h]
 rfl

theorem Oper.apart_Apart {ops : Array Oper} {i j : Nat} {x y : Oper} (hx : ops[i]? = some x) (hy : ops[j]? = some y) (h : x.apart ops y = true) : Apart ops i j := by
 have := Go.Oper.apart_spec h
 unfold Apart dstI looksI
 rw [hx, hy]
 exact this

section
variable {w0 : World} {S : Sys}

/-- Of two operations, the first one ahead of the second: neither need stand ahead; or they are a load and a store that go to two objects. -/
def PF (S : Sys) (rsv sx : Bool) (ops : Array Oper) (i j : Nat) : Prop :=
 pairFree S rsv ops (masks ops) i j = true ∨
 (sx = true ∧ i < j ∧ ((masks ops).getD i 0).testBit j = false ∧ (∃ p, sPair ops (masks ops) i j = some p) ∧ Apart ops i j)
theorem PF.bit {rsv sx : Bool} {ops : Array Oper} {i j : Nat} (h : PF S rsv sx ops i j) : ((masks ops).getD i 0).testBit j = false := by
 rcases h with h | h
 ·unfold pairFree at h
  simp only [Bool.and_eq_true, Bool.not_eq_true'] at h
  exact h.1
 ·exact h.2.2.1
theorem sRow_mem {ops : Array Oper} {ms : List Nat} {j i : Nat} {p : Tmp × Tmp} (hp : sPair ops ms j i = some p) : ∀ {l : List Nat}, i ∈ l → p ∈ sRow ops ms j l
 | k :: l, h => by
  rw [sRow]
  rcases List.mem_cons.1 h with rfl | h
  ·rw [hp]; simp
  ·have := sRow_mem hp h
   split
   ·exact List.mem_cons_of_mem _ this
   ·exact this
theorem sRows_mem {ops : Array Oper} {ms : List Nat} {j i : Nat} {p : Tmp × Tmp} (hp : sPair ops ms j i = some p) : ∀ (l1 l2 : List Nat), i ∈ l2 → p ∈ sRows ops ms (l1 ++ j :: l2)
 | [], l2, h => by
  rw [List.nil_append, sRows]
  exact List.mem_append_left _ (sRow_mem hp h)
 | k :: l1, l2, h => by
  rw [List.cons_append, sRows]
  exact List.mem_append_right _ (sRows_mem hp l1 l2 h)
theorem sList_mem {ops : Array Oper} {j i : Nat} {p : Tmp × Tmp} (hp : sPair ops (masks ops) j i = some p) (hji : j < i) (hi : i < ops.size) : p ∈ sList ops := by
 unfold sList
 have e : List.range ops.size = List.range j ++ j :: List.range' (j + 1) (ops.size - (j + 1)) := by
  rw [range_split (i := j) (k := ops.size) (by omega), show ops.size - j = (ops.size - (j + 1)) + 1 by omega, List.range'_succ]
 rw [e]
 exact sRows_mem hp _ _ (by rw [List.mem_range'_1]; omega)
theorem sPair_some {ops : Array Oper} {ms : List Nat} {j i : Nat} {p : Tmp × Tmp} (h : sPair ops ms j i = some p) : loadAt ops j = some p.1 ∧ storeAt ops i = some p.2 ∧
  (∀ k, k < ops.size → dstI ops k = some p.1 → k ≠ j ∧ (ms.getD j 0).testBit k = true) ∧ ∀ k, k < ops.size → dstI ops k = some p.2 → k ≠ i ∧ (ms.getD i 0).testBit k = true := by
 have fx : ∀ j t, fixedSlot ops ms j t = true → ∀ k, k < ops.size → dstI ops k = some t → k ≠ j ∧ (ms.getD j 0).testBit k = true := fun j t hf k hk hd => by
  unfold fixedSlot at hf
  have := List.all_eq_true.1 hf k (List.mem_range.2 hk)
  have ho : ops[k]? = some ops[k] := Array.getElem?_eq_getElem hk
  unfold dstI at hd
  rw [ho] at hd this
  simp only [Option.bind_some] at hd
  simpa [hd] using this
 unfold sPair at h
 split at h
 ·rename_i a b ha hb
  split at h
  ·rename_i hc
   cases h
   rw [Bool.and_eq_true] at hc
   exact ⟨ha, hb, fx j a hc.1, fx i b hc.2⟩
  ·cases h
 ·cases h
theorem draw_any (G : Good w0 S) {rsv sx : Bool} {base : Nat} {ops : Array Oper} {Q : Exit → Act → World → Prop} {fr' : Frame} {H' : AHeap}
  (hb : ∀ i o, ops[i]? = some o → ∀ b ∈ binding o, b < i) (hfar : sx = true → farS (sList ops) fr' = true) : ∀ (n : Nat) (rem : List Nat) (listed : Array Bool) (μ : PMap) (H : AHeap) (w : World) (fr : Frame) (a : Act), rem.length = n → listed.size = ops.size →
  (∀ i, i < ops.size → (listed.getD i true = true ↔ i ∉ rem)) → (∀ i ∈ rem, i < ops.size) → rem.Nodup → rem.Pairwise (fun i j => PF S rsv sx ops i j) →
  (∀ i, i < ops.size → i ∉ rem → ∀ j, ((masks ops).getD i 0).testBit j = true → j ∉ rem) → (∀ i ∈ rem, kdAt S rsv ops i = .a → H[base + rankA S ops i]? = some .hole) →
  runI S rsv ops base rem fr H ret2 = some (fr', H') → Sim S.P w0 μ H w → FrRel μ S.nt fr a →
  (∀ μ' a' w', Sub μ μ' → Sim S.P w0 μ' H' w' → FrRel μ' S.nt fr' a' → a'.defers = a.defers → Q .normal a' w') → wpAny S.P .any ops Q n listed a w := by
 intro n
 have ready_iff : ∀ (listed : Array Bool) (i : Nat), i ∈ Region.ready .any ops listed ↔ ∃ o, ops[i]? = some o ∧ listed.getD i true = false ∧ ∀ b ∈ binding o, listed.getD b false = true := by
  intro listed i
  unfold Region.ready binding
  rw [List.mem_filter]
  constructor
  ·rintro ⟨h1, h2⟩
   simp only [Bool.and_eq_true, Bool.not_eq_true'] at h2
   have hlt : i < ops.size := by simpa using h1
   have ho : ops[i]? = some ops[i] := Array.getElem?_eq_getElem hlt
   rw [ho] at h2
   refine ⟨ops[i], ho, h2.1, fun b hb => ?_⟩
   obtain ⟨e, he, hbe⟩ := List.mem_filterMap.1 hb
   have h3 := h2.2
   simp only [Option.map_some, Option.getD_some, Array.all_eq_true_iff_forall_mem] at h3
   have := h3 e (by simpa using he)
   split at hbe
   ·rename_i hbi
    cases hbe
    simpa [hbi] using this
   ·cases hbe
  ·rintro ⟨o, ho, h1, h2⟩
   refine ⟨by simpa using (Array.getElem?_eq_some_iff.1 ho).1, ?_⟩
   rw [ho, h1]
   simp only [Bool.not_false, Bool.true_and, Option.map_some, Option.getD_some, Array.all_eq_true_iff_forall_mem]
   intro e he
   cases hbi : Region.binds .any e with
   | false => rfl
   | true => simpa using h2 e.on (List.mem_filterMap.2 ⟨e, by simpa using he, by simp [hbi]⟩)
 have getD_ft : ∀ (listed : Array Bool) (b : Nat), b < listed.size → listed.getD b false = listed.getD b true := fun listed b hb => by simp [Array.getD, hb]
 induction n with
 | zero =>
  intro rem listed μ H w fr a hlen hsz hl hrem hnd hpw hdown hhol hrun hS hfr hQ
  have : rem = [] := List.eq_nil_of_length_eq_zero hlen
  subst this
  simp only [runI, ret2, Option.some.injEq, Prod.mk.injEq] at hrun
  obtain ⟨rfl, rfl⟩ := hrun
  refine ⟨?_, hQ μ a w (Sub.refl μ) hS hfr rfl⟩
  rw [List.eq_nil_iff_forall_not_mem]
  intro i hi
  obtain ⟨o, ho, h1, _⟩ := (ready_iff listed i).1 hi
  have := (hl i (Array.getElem?_eq_some_iff.1 ho).1).2 (by simp)
  rw [h1] at this
  cases this
 | succ n ih =>
  intro rem listed μ H w fr a hlen hsz hl hrem hnd hpw hdown hhol hrun hS hfr hQ
  refine ⟨fun hnil => ?_, fun i hi => ?_⟩
  ·exfalso
   match rem, hlen with
   | i0 :: rest, _ =>
    have hlt := hrem i0 List.mem_cons_self
    have ho : ops[i0]? = some ops[i0] := Array.getElem?_eq_getElem hlt
    have : i0 ∈ Region.ready .any ops listed := by
     refine (ready_iff listed i0).2 ⟨_, ho, ?_, fun b hbb => ?_⟩
     ·cases hc : listed.getD i0 true with
      | false => rfl
      | true => exact absurd List.mem_cons_self ((hl i0 hlt).1 hc)
     ·have hbl := hb i0 _ ho b hbb
      rw [getD_ft listed b (by omega)]
      refine (hl b (by omega)).2 fun hm => ?_
      rcases List.mem_cons.1 hm with e | hm
      ·omega
      ·have hpf := (List.pairwise_cons.1 hpw).1 b hm
       have hbit := (masks_bit ho (hb i0 _ ho) b).2 ⟨b, hbb, .inl rfl⟩
       rw [hpf.bit] at hbit
       cases hbit
    rw [hnil] at this
    cases this
  ·obtain ⟨o, ho, h1, h2⟩ := (ready_iff listed i).1 hi
   have hlt := (Array.getElem?_eq_some_iff.1 ho).1
   have hin : i ∈ rem := by
    cases Decidable.em (i ∈ rem) with
    | inl h => exact h
    | inr h => have := (hl i hlt).2 h; rw [h1] at this; cases this
   have hbits : ∀ j, ((masks ops).getD i 0).testBit j = true → j ∉ rem := fun j hj => by
    obtain ⟨b, hbb, hcase⟩ := (masks_bit ho (hb i o ho) j).1 hj
    have hbl := hb i o ho b hbb
    have hbn : b ∉ rem := (hl b (by omega)).1 (by rw [← getD_ft listed b (by omega)]; exact h2 b hbb)
    rcases hcase with rfl | hcase
    ·exact hbn
    ·exact hdown b (by omega) hbn j hcase
   obtain ⟨pre, post, rfl⟩ := List.append_of_mem hin
   have hpair : ∀ j ∈ pre, PF S rsv sx ops j i := fun j hj => (List.pairwise_append.1 hpw).2.2 j hj i List.mem_cons_self
   have hpre : ∀ j ∈ pre, (pairOk (kdAt S rsv ops j) (kdAt S rsv ops i) = true ∨ pureA S rsv ops i = true ∨ FarPair ops fr' pre post i j) ∧ Apart ops j i := fun j hj => by
    rcases hpair j hj with hp | ⟨hsx, hji, hnb, ⟨p, hsp⟩, hap⟩
    case inr =>
     refine ⟨.inr (.inr ?_), hap⟩
     obtain ⟨s1, s2, s3, s4⟩ := sPair_some hsp
     have hne := List.all_eq_true.1 (hfar hsx) p (sList_mem hsp hji hlt)
     unfold ptrNe at hne
     split at hne
     ·rename_i x ox Lx y oy Ly h1' h2'
      refine ⟨p.1, p.2, x, ox, Lx, y, oy, Ly, s1, s2, h1', h2', of_decide_eq_true hne, fun k hk hd => ?_, fun p1 p2 e k hk hd => ?_⟩
      ·obtain ⟨_, g2⟩ := s4 k (hrem k hk) hd
       exact hbits k g2 hk
      ·have hkm : k ∈ pre ++ i :: post := by
        rw [e]
        rcases List.mem_cons.1 hk with rfl | hk
        ·simp
        ·rcases List.mem_append.1 hk with hk | hk
         ·simp [hk]
         ·exact List.mem_append_right _ hk
       obtain ⟨g1, g2⟩ := s3 k (hrem k hkm) hd
       rcases List.mem_cons.1 hk with rfl | hk
       ·exact g1 rfl
       ·have hpw' : (p1 ++ (j :: (p2 ++ i :: post))).Pairwise (fun i j => PF S rsv sx ops i j) := by
         have := hpw
         rw [e] at this
         simpa using this
        have := (List.pairwise_cons.1 (List.pairwise_append.1 hpw').2.1).1 k hk
        rw [this.bit] at g2
        cases g2
     ·cases hne
    unfold pairFree at hp
    have hnb : ((masks ops).getD i 0).testBit j = false := by
     cases hc : ((masks ops).getD i 0).testBit j with
     | false => rfl
     | true => exact absurd (List.mem_append_left _ hj) (hbits j hc)
    rw [hnb] at hp
    simp only [Bool.and_eq_true, Bool.or_eq_true, Bool.false_or, Bool.not_eq_true'] at hp
    obtain ⟨_, hp1, hp2⟩ := hp
    have hjo : ops[j]? = some (ops[j]'(hrem j (List.mem_append_left _ hj))) := Array.getElem?_eq_getElem _
    rw [hjo, ho] at hp2
    exact ⟨hp1.imp id .inl, Oper.apart_Apart hjo ho hp2⟩
   have hnd' := hnd
   rw [List.nodup_append] at hnd'
   obtain ⟨nd1, nd2, nd3⟩ := hnd'
   obtain ⟨v, H1, hv, hrun'⟩ := exchange G.quiet G.ovl hrun hpre (fun x => hS.head (hfr.eval x)) (hhol i hin) (fun j hj ha hk => rank_ne (fun e => nd3 j hj i List.mem_cons_self e) ha (isA_true_of hk))
   have hstep : stepI S rsv ops base i fr H ret2 = some (put S.nt fr (dstI ops i) v, H1) := by rw [stepI_val, hv]; rfl
   refine stepI_wp G hstep hS hfr fun μ1 a1 w1 s1 hS1 hfr1 hd1 => ?_
   have hmem : ∀ k, k ∈ pre ++ post → k ∈ pre ++ i :: post := fun k hk => by
    rcases List.mem_append.1 hk with h | h
    ·exact List.mem_append_left _ h
    ·exact List.mem_append_right _ (List.mem_cons_of_mem _ h)
   have hnot : ∀ k, k ≠ i → k ∉ pre ++ post → k ∉ pre ++ i :: post := fun k hne hk hk2 => by
    rcases List.mem_append.1 hk2 with h | h
    ·exact hk (List.mem_append_left _ h)
    ·rcases List.mem_cons.1 h with h | h
     ·exact hne h
     ·exact hk (List.mem_append_right _ h)
   have hiout : i ∉ pre ++ post := fun h => by
    rcases List.mem_append.1 h with h | h
    ·exact nd3 i h i List.mem_cons_self rfl
    ·exact (List.nodup_cons.1 nd2).1 h
   have hsub : (pre ++ post).Sublist (pre ++ i :: post) := List.Sublist.append (List.Sublist.refl _) (List.sublist_cons_self _ _)
   refine ih (pre ++ post) (listed.setIfInBounds i true) μ1 H1 w1 (put S.nt fr (dstI ops i) v) a1 (by simp at hlen ⊢; omega) (by simpa using hsz) (fun k hk => ?_) (fun k hk => hrem k (hmem k hk)) (hnd.sublist hsub) (hpw.sublist hsub)
    (fun k hk hkn j hj hjm => ?_) (fun k hk hka => ?_) hrun' hS1 hfr1 fun μ' a' w' s2 hS' hfr' hd' => hQ μ' a' w' (s1.trans s2) hS' hfr' (hd'.trans hd1)
   ·by_cases hki : k = i
    ·subst hki
     refine ⟨fun _ => hiout, fun _ => ?_⟩
     rw [Array.getD_eq_getD_getElem?, Array.getElem?_setIfInBounds_self, if_pos (by omega)]
     rfl
    ·rw [Array.getD_eq_getD_getElem?, Array.getElem?_setIfInBounds_ne (fun e => hki e.symm), ← Array.getD_eq_getD_getElem?, hl k hk]
     exact ⟨fun h h2 => h (hmem k h2), hnot k hki⟩
   ·by_cases hki : k = i
    ·subst hki
     exact hbits j hj (hmem j hjm)
    ·exact hdown k hk (hnot k hki hkn) j hj (hmem j hjm)
   ·have hne : i ≠ k := fun e => hiout (e ▸ hk)
    have hold := hhol k (hmem k hk) hka
    have := (stepI_ovl (F := fun _ => .hole) (hol := fun x => x == base + rankA S ops k) G.ovl (rsv := rsv) (base := base) (fun _ ha => by
     have := rank_ne hne ha (isA_true_of hka)
     simp only [beq_eq_false_iff_ne, ne_eq]
     omega) (fun x hx => by
      have : x = base + rankA S ops k := by simpa using hx
      rw [this]; exact hold) hstep).2
    exact this _ (by simp)

theorem holes_hole : ∀ (n i : Nat) (o : AObj), (holes n)[i]? = some o → o = .hole
 | 0, i, o, h => by simp [holes] at h
 | n + 1, 0, o, h => by simp [holes] at h; exact h.symm
 | n + 1, i + 1, o, h => holes_hole n i o (by simpa [holes] using h)

theorem Sim.addHoles {P : Program} {μ : PMap} {H : AHeap} {w : World} (h : Sim P w0 μ H w) (n : Nat) : Sim P w0 μ (H ++ holes n) w := by
 have old : ∀ (id : Nat) (o : AObj), (H ++ Am.holes n)[id]? = some o → H[id]? = some o ∨ o = .hole := fun id o ho => by
  by_cases hl : id < H.length
  ·rw [List.getElem?_append_left hl] at ho; exact .inl ho
  ·rw [List.getElem?_append_right (by omega)] at ho; exact .inr (holes_hole _ _ _ ho)
 have same : ∀ (id L : Nat) (m : Place), μ id L = some m → (H ++ Am.holes n)[id]? = H[id]? := fun id L m hm => List.getElem?_append_left (h.dom id L m hm).1
 refine ⟨h.below, fun id L m hm => ⟨by have := (h.dom id L m hm).1; simp; omega, (h.dom id L m hm).2⟩, fun id L m hm => by rw [same id L m hm]; exact h.nohole id L m hm,
  fun id L m cs e wr md hm ho => by rw [same id L m hm] at ho; exact h.ver id L m cs e wr md hm ho, fun id o ho => ?_, fun id id' o o' L L' m m' hne ho ho' hw hl hl' hm hm' => ?_, h.gl⟩
 ·rcases old id o ho with h1 | rfl
  ·exact h.ok id o h1
  ·trivial
 ·rcases old id o ho with h1 | rfl
  ·rcases old id' o' ho' with h2 | rfl
   ·exact h.sep id id' o o' L L' m m' hne h1 h2 hw hl hl' hm hm'
   ·cases hl'
  ·cases hl

theorem holes_get (n i : Nat) (h : i < n) : (holes n)[i]? = some .hole := by
 induction n generalizing i with
 | zero => omega
 | succ n ih =>
  cases i with
  | zero => rfl
  | succ i => simpa [holes] using ih i (by omega)

theorem Good.drawn (G : Good w0 S) : Good w0 (Am.drawn S) := ⟨G.cl, G.en, G.ext, G.mixed, G.quiet, G.ovl⟩

theorem rank_le {ops : Array Oper} {i k : Nat} (h : i ≤ k) : rankA S ops i ≤ rankA S ops k := by
 unfold rankA
 rw [range_split (by omega : i ≤ k), List.filter_append, List.length_append]
 omega

theorem draw_from (G : Good w0 S) {rsv : Bool} {base : Nat} {ops : Array Oper} {ord : List Nat} (hok : orderOk S rsv ops ord = true) {Q : Exit → Act → World → Prop} {μ : PMap} {H H' : AHeap} {w : World} {fr fr' : Frame} {a : Act}
  (hh : ∀ i, i < ops.size → kdAt S rsv ops i = .a → H[base + rankA S ops i]? = some .hole)
  (h : runI S rsv ops base ord fr H ret2 = some (fr', H')) (hS : Sim S.P w0 μ H w) (hfr : FrRel μ S.nt fr a)
  (hQ : ∀ μ' a' w', Sub μ μ' → Sim S.P w0 μ' H' w' → FrRel μ' S.nt fr' a' → a'.defers = a.defers → Q .normal a' w') : wpAny S.P .any ops Q ops.size (Array.replicate ops.size false) a w := by
 unfold orderOk at hok
 simp only [Bool.and_eq_true, beq_iff_eq] at hok
 obtain ⟨⟨⟨⟨⟨hlen, hnd, hlt⟩, hcov⟩, hbind⟩, _⟩, hpairs⟩ := hok
 have hlt' : ∀ i ∈ ord, i < ops.size := fun i hi => by simpa using List.all_eq_true.1 hlt i hi
 have hcov' : ∀ i, i < ops.size → i ∈ ord := fun i hi => by
  have := List.all_eq_true.1 hcov i (List.mem_range.2 hi)
  simpa using this
 have hb : ∀ i o, ops[i]? = some o → ∀ b ∈ binding o, b < i := fun i o ho b hbb => by
  have h1 := List.all_eq_true.1 hbind (o, i) (List.mem_zipIdx_iff_getElem?.2 (by simpa using ho))
  have := List.all_eq_true.1 h1 b hbb
  simpa using this
 refine draw_any G (sx := false) hb (fun e => by cases e) ops.size ord _ μ H w fr a hlen (by simp) (fun i hi => ?_) hlt' (noDup_nodup _ hnd) (((allPairs_iff _ _).1 hpairs).imp fun h => .inl h)
  (fun i hi hn => absurd (hcov' i hi) hn) (fun i hi hk => hh i (hlt' i hi) hk) h hS hfr hQ
 have : (Array.replicate ops.size false).getD i true = false := by simp [Array.getD, hi]
 rw [this]
 exact ⟨fun e => by (cases e), fun hn => absurd (hcov' i hi) hn⟩

/-- In the text's order, loads and stores apart. -/
theorem draw_far (G : Good w0 S) {ops : Array Oper} (hok : orderOkS S ops = true) {Q : Exit → Act → World → Prop} {μ : PMap} {H H' : AHeap} {w : World} {fr fr' : Frame} {a : Act}
  (h : runI S false ops 0 (List.range ops.size) fr H ret2 = some (fr', H')) (hf : farS (sList ops) fr' = true) (hS : Sim S.P w0 μ H w) (hfr : FrRel μ S.nt fr a)
  (hQ : ∀ μ' a' w', Sub μ μ' → Sim S.P w0 μ' H' w' → FrRel μ' S.nt fr' a' → a'.defers = a.defers → Q .normal a' w') : wpAny S.P .any ops Q ops.size (Array.replicate ops.size false) a w := by
 unfold orderOkS at hok
 simp only [Bool.and_eq_true] at hok
 obtain ⟨⟨hbind, _⟩, hpairs⟩ := hok
 have hb : ∀ i o, ops[i]? = some o → ∀ b ∈ binding o, b < i := fun i o ho b hbb => by
  have h1 := List.all_eq_true.1 hbind (o, i) (List.mem_zipIdx_iff_getElem?.2 (by simpa using ho))
  have := List.all_eq_true.1 h1 b hbb
  simpa using this
 have hpw : (List.range ops.size).Pairwise (fun i j => PF S false true ops i j) := by
  have h1 := (allPairs_iff _ _).1 hpairs
  have h2 : (List.range ops.size).Pairwise (· < ·) := List.pairwise_lt_range
  have h3 : (List.range ops.size).Pairwise (fun i j => j < ops.size) := List.Pairwise.imp_of_mem (R := fun _ _ => True) (fun _ hj _ => List.mem_range.1 hj) (List.pairwise_of_forall (fun _ _ => trivial))
  refine ((h1.and h2).and h3).imp ?_
  rintro i j ⟨⟨h1, h2⟩, h3⟩
  unfold pairFreeS at h1
  rw [Bool.or_eq_true] at h1
  rcases h1 with h1 | h1
  ·exact .inl h1
  ·simp only [Bool.and_eq_true, Bool.not_eq_true'] at h1
   obtain ⟨⟨g1, g2⟩, g3⟩ := h1
   have hi : ops[i]? = some (ops[i]'(by omega)) := Array.getElem?_eq_getElem _
   have hj : ops[j]? = some (ops[j]'h3) := Array.getElem?_eq_getElem _
   rw [hi, hj] at g3
   exact .inr ⟨rfl, h2, g1, Option.isSome_iff_exists.1 g2, Oper.apart_Apart hi hj g3⟩
 refine draw_any G (rsv := false) (sx := true) (base := 0) hb (fun _ => hf) ops.size (List.range ops.size) _ μ H w fr a (by simp) (by simp) (fun i hi => ?_) (fun i hi => List.mem_range.1 hi) List.nodup_range hpw
  (fun i hi hn => absurd (List.mem_range.2 hi) hn) (fun i _ hk => by have := kd_a_rsv hk; cases this) h hS hfr hQ
 have : (Array.replicate ops.size false).getD i true = false := by simp [Array.getD, hi]
 rw [this]
 exact ⟨fun e => by (cases e), fun hn => absurd (List.mem_range.2 hi) hn⟩

/-- A region whose order is open. -/
theorem draw_wp (G : Good w0 S) {id : Nat} {ops : Array Oper} {Q : Exit → Act → World → Prop} {μ : PMap} {H H' : AHeap} {w : World} {fr fr' : Frame} {a : Act}
  (h : drawRun S ops fr H ret2 = some (fr', H')) (hS : Sim S.P w0 μ H w) (hfr : FrRel μ S.nt fr a)
  (hQ : ∀ μ' a' w', Sub μ μ' → Sim S.P w0 μ' H' w' → FrRel μ' S.nt fr' a' → a'.defers = a.defers → Q .normal a' w') : (Code.region id ops true).wp S.P Q a w := by
 refine wp_region_any G.mixed ?_
 have hS1 : Sim S.P w0 μ H { w with drawn := w.drawn + 1 } := hS.same rfl rfl rfl rfl
 unfold drawRun at h
 split at h
 ·rename_i hc
  exact draw_from (S := S) G (rsv := false) (base := 0) hc (fun i _ hk => by have := kd_a_rsv hk; cases this) h hS1 hfr hQ
 ·split at h
  ·rename_i hc
   exact draw_from (S := drawn S) G.drawn (rsv := false) (base := 0) hc (fun i _ hk => by have := kd_a_rsv hk; cases this) h hS1 hfr hQ
  split at h
  ·rename_i hc
   refine draw_from (S := drawn S) G.drawn (rsv := true) (base := H.length) hc (fun i hi hk => ?_) h (hS1.addHoles _) hfr hQ
   rw [List.getElem?_append_right (by omega), Nat.add_sub_cancel_left]
   refine holes_get _ _ ?_
   exact Nat.lt_of_lt_of_le (rank_lt (k := i + 1) (by omega) (isA_true_of hk)) (rank_le (by omega))
  split at h
  ·rename_i hc
   obtain ⟨h1, h2⟩ := drawFar_some h
   exact draw_far (S := drawn S) G.drawn hc h1 h2 hS1 hfr hQ
  ·cases h
end
end Go.Proofs.Ythjkodbinkiifaa.Am
