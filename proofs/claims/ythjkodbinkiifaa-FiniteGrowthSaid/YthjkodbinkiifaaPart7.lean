/- A part of the proof of a given statement: AmCode, AmGc, AmLim, AmPw. No condition. -/
import Derived.Test.YthjkodbinkiifaaPart6
import Derived.LoopN
import Derived.Scope
namespace Go.Proofs.Ythjkodbinkiifaa.Am
open Go Go.RowKit

section
variable {w0 : World} {S : Sys}

theorem runOps_wp (G : Good w0 S) {ops : Array Oper} {Q : Exit → Act → World → Prop} : ∀ (n k : Nat), k + n = ops.size → ∀ {μ : PMap} {H H' : AHeap} {w : World} {fr fr' : Frame} {a : Act},
  runOps S ops (ops.toList.drop k) fr H ret2 = some (fr', H') → Sim S.P w0 μ H w → FrRel μ S.nt fr a →
  (∀ μ' a' w', Sub μ μ' → Sim S.P w0 μ' H' w' → FrRel μ' S.nt fr' a' → a'.defers = a.defers → Q .normal a' w') → wpOps S.P ops Q (List.range' k n) a w
 | 0, k, hk, μ, H, H', w, fr, fr', a, h, hS, hfr, hQ => by
  have : ops.toList.drop k = [] := by rw [List.drop_eq_nil_iff]; simp; omega
  rw [this] at h
  simp only [runOps, ret2, Option.some.injEq, Prod.mk.injEq] at h
  obtain ⟨rfl, rfl⟩ := h
  exact hQ μ a w (Sub.refl μ) hS hfr rfl
 | n + 1, k, hk, μ, H, H', w, fr, fr', a, h, hS, hfr, hQ => by
  have hlt : k < ops.toList.length := by simp; omega
  rw [List.drop_eq_getElem_cons hlt] at h
  obtain ⟨fr1, H1, h1, h2⟩ := runOps_cons h
  rw [List.range'_succ, wpOps_cons]
  refine step_wp G (o := ops.toList[k]) (by simp) h1 hS hfr fun μ1 a1 w1 s1 hS1 hfr1 hd1 => ?_
  exact runOps_wp G n (k + 1) (by omega) h2 hS1 hfr1 fun μ' a' w' s2 hS' hfr' hd' => hQ μ' a' w' (s1.trans s2) hS' hfr' (hd'.trans hd1)

theorem slotsOf_pack (fr : Frame) : ∀ (lv : List Nat) (t : Nat), slotsOf lv (pack lv fr) t = if t ∈ lv then fr t else undef
 | [], t => rfl
 | s :: lv, t => by
  have ih := slotsOf_pack fr lv t
  unfold pack at ih ⊢
  simp only [List.map_cons, slotsOf, List.mem_cons]
  rw [ih]
  by_cases h : t = s
  ·subst h; simp
  ·simp [h]

theorem slots_rel {μ : PMap} {lv : List Nat} {nt : Nat} {fr : Frame} {a : Act} (h : FrRel μ nt fr a) : FrRel μ nt (slotsOf lv (pack lv fr)) a := by
 refine ⟨h.1, fun t => ?_⟩
 rw [slotsOf_pack]
 split
 ·exact h.2 t
 ·exact .any _

def exitOf : Ex → Exit
 | .normal => .normal
 | .exit n => .exit n
 | .ret => .ret

theorem exec_wp (G : Good w0 S) (n : Nat) (hlp : S.lp = loopN n) : ∀ (c : ACode) (fr : Frame) (H : AHeap) (e : Ex) (fr' : Frame) (H' : AHeap), exec S c R3 fr H ret3 = some (e, fr', H') →
  ∀ (μ : PMap) (w : World) (a : Act) (Q : Exit → Act → World → Prop), Sim S.P w0 μ H w → FrRel μ S.nt fr a →
  (∀ μ' a' w', Sub μ μ' → Sim S.P w0 μ' H' w' → FrRel μ' S.nt fr' a' → a'.defers = a.defers → Q (exitOf e) a' w') → (strip c).wp S.P Q a w := by
 intro c
 induction c with
 | skip =>
  intro fr H e fr' H' h μ w a Q hS hfr hQ
  simp only [exec, ret3, Option.some.injEq, Prod.mk.injEq] at h
  obtain ⟨rfl, rfl, rfl⟩ := h
  exact wp_skip (hQ μ a w (Sub.refl μ) hS hfr rfl)
 | region id ops draw =>
  intro fr H e fr' H' h μ w a Q hS hfr hQ
  simp only [exec] at h
  cases draw with
  | true =>
   simp only [if_true] at h
   rw [drawRun_bind] at h
   obtain ⟨⟨fr1, H1⟩, h1, h2⟩ := bind_some' h
   simp only [ret3, Option.some.injEq, Prod.mk.injEq] at h2
   obtain ⟨rfl, rfl, rfl⟩ := h2
   exact draw_wp G h1 hS hfr hQ
  | false =>
   simp only [Bool.false_eq_true, if_false] at h
   rw [runOps_bind] at h
   obtain ⟨⟨fr1, H1⟩, h1, h2⟩ := bind_some' h
   simp only [ret3, Option.some.injEq, Prod.mk.injEq] at h2
   obtain ⟨rfl, rfl, rfl⟩ := h2
   refine wp_region ?_
   rw [List.range_eq_range']
   exact runOps_wp G ops.size 0 (by omega) h1 hS hfr hQ
 | seq x y ihx ihy =>
  intro fr H e fr' H' h μ w a Q hS hfr hQ
  simp only [exec] at h
  rw [exec_bind] at h
  obtain ⟨⟨e1, fr1, H1⟩, h1, h2⟩ := bind_some' h
  refine wp_seq (ihx fr H e1 fr1 H1 h1 μ w a _ hS hfr fun μ1 a1 w1 s1 hS1 hfr1 hd1 => ?_)
  cases e1 with
  | normal => exact ihy fr1 H1 e fr' H' h2 μ1 w1 a1 Q hS1 hfr1 fun μ' a' w' s2 hS' hfr' hd' => hQ μ' a' w' (s1.trans s2) hS' hfr' (hd'.trans hd1)
  | exit k =>
   simp only [ret3, Option.some.injEq, Prod.mk.injEq] at h2
   obtain ⟨rfl, rfl, rfl⟩ := h2
   exact hQ μ1 a1 w1 s1 hS1 hfr1 hd1
  | ret =>
   simp only [ret3, Option.some.injEq, Prod.mk.injEq] at h2
   obtain ⟨rfl, rfl, rfl⟩ := h2
   exact hQ μ1 a1 w1 s1 hS1 hfr1 hd1
 | cond c x y lv ihx ihy =>
  intro fr H e fr' H' h μ w a Q hS hfr hQ
  simp only [exec] at h
  unfold onBool at h
  split at h
  case h_2 => cases h
  rename_i t ht
  have hc := hfr.eval c
  rw [ht] at hc
  refine wp_cond hc.bool_inv ?_
  obtain ⟨r, h1, h2⟩ := bind_some' h
  simp only [ret3, Option.some.injEq, Prod.mk.injEq] at h2
  obtain ⟨rfl, rfl, rfl⟩ := h2
  cases t with
  | true =>
   simp only [if_true] at h1 ⊢
   obtain ⟨e1, fr1, H1, h3, rfl⟩ := exec_packed (f := id) h1
   exact ihx fr H e1 fr1 H1 h3 μ w a Q hS hfr fun μ' a' w' s hS' hfr' hd => hQ μ' a' w' s hS' (slots_rel hfr') hd
  | false =>
   simp only [Bool.false_eq_true, if_false] at h1 ⊢
   obtain ⟨e1, fr1, H1, h3, rfl⟩ := exec_packed (f := id) h1
   exact ihy fr H e1 fr1 H1 h3 μ w a Q hS hfr fun μ' a' w' s hS' hfr' hd => hQ μ' a' w' s hS' (slots_rel hfr') hd
 | block id b lv ih =>
  intro fr H e fr' H' h μ w a Q hS hfr hQ
  simp only [exec] at h
  obtain ⟨r, h1, h2⟩ := bind_some' h
  simp only [ret3, Option.some.injEq, Prod.mk.injEq] at h2
  obtain ⟨rfl, rfl, rfl⟩ := h2
  obtain ⟨e1, fr1, H1, h3, rfl⟩ := exec_packed (f := inBlock id) h1
  refine wp_block (ih fr H e1 fr1 H1 h3 μ w a _ hS hfr fun μ' a' w' s hS' hfr' hd => ?_)
  have hq := hQ μ' a' w' s hS' (slots_rel hfr') hd
  cases e1 with
  | normal => exact hq
  | exit k =>
   simp only [inBlock] at hq
   simp only [exitOf, Exit.inBlock]
   split
   ·rename_i hk; rw [if_pos hk] at hq; exact hq
   ·rename_i hk; rw [if_neg hk] at hq; exact hq
  | ret => exact hq
 | loop b lv lo ih =>
  intro fr H e fr' H' h μ w a Q hS hfr hQ
  simp only [exec, hlp] at h
  obtain ⟨r, h1, h2⟩ := bind_some' h
  simp only [ret3, Option.some.injEq, Prod.mk.injEq] at h2
  obtain ⟨rfl, rfl, rfl⟩ := h2
  refine wp_loop_rounds n ?_
  have key : ∀ (k : Nat) (vs : List Value) (H0 : AHeap) (r : LO), loopN k (fun s => exec S b (LS ⊕ LO) (slotsOf lv s.1) s.2 fun e fr' H' =>
    match e with
    | .normal => some (.inl (pack lv fr', H'))
    | .exit n => some (.inr (.exit n, pack lo fr', H'))
    | .ret => some (.inr (.ret, pack lo fr', H'))) (vs, H0) = some r →
    ∀ (μ0 : PMap) (w1 : World) (a1 : Act), Sub μ μ0 → Sim S.P w0 μ0 H0 w1 → FrRel μ0 S.nt (slotsOf lv vs) a1 → a1.defers = a.defers →
    (∀ μ' a' w', Sub μ μ' → Sim S.P w0 μ' r.2.2 w' → FrRel μ' S.nt (slotsOf lo r.2.1) a' → a'.defers = a.defers → Q (exitOf r.1) a' w') →
    Code.rounds S.P (strip b) Q k a1 w1 := by
   intro k
   induction k with
   | zero => intro vs H0 r hr; simp [loopN] at hr
   | succ k ihk =>
    intro vs H0 r hr μ0 w1 a1 s0 hS1 hfr1 hd1 hQ1
    simp only [loopN] at hr
    obtain ⟨x, hx, hr⟩ := bind_some' hr
    rw [exec_bind] at hx
    obtain ⟨⟨e1, fr1, H1⟩, h3, h4⟩ := bind_some' hx
    rw [rounds_succ]
    refine ih _ _ _ _ _ h3 μ0 w1 a1 _ hS1 hfr1 fun μ' a' w' s hS' hfr' hd => ?_
    cases e1 with
    | normal =>
     simp only [Option.some.injEq] at h4
     subst h4
     exact ihk _ _ r hr μ' w' a' (s0.trans s) hS' (slots_rel hfr') (hd.trans hd1) hQ1
    | exit j =>
     simp only [Option.some.injEq] at h4
     subst h4
     simp only [Option.some.injEq] at hr
     subst hr
     exact hQ1 μ' a' w' (s0.trans s) hS' (slots_rel hfr') (hd.trans hd1)
    | ret =>
     simp only [Option.some.injEq] at h4
     subst h4
     simp only [Option.some.injEq] at hr
     subst hr
     exact hQ1 μ' a' w' (s0.trans s) hS' (slots_rel hfr') (hd.trans hd1)
  exact key n (pack lv fr) H r h1 μ w a (Sub.refl μ) hS (slots_rel hfr) rfl hQ
 | exit k =>
  intro fr H e fr' H' h μ w a Q hS hfr hQ
  simp only [exec, ret3, Option.some.injEq, Prod.mk.injEq] at h
  obtain ⟨rfl, rfl, rfl⟩ := h
  exact wp_exit (hQ μ a w (Sub.refl μ) hS hfr rfl)
 | scope b ih =>
  intro fr H e fr' H' h μ w a Q hS hfr hQ
  refine wp_scope_straight (ih fr H e fr' H' h μ w a _ hS hfr fun μ' a' w' s hS' hfr' hd => ?_)
  have := hQ μ' a' w' s hS' hfr' hd
  cases e <;> exact this
 | label l =>
  intro fr H e fr' H' h μ w a Q hS hfr hQ
  simp only [exec, ret3, Option.some.injEq, Prod.mk.injEq] at h
  obtain ⟨rfl, rfl, rfl⟩ := h
  exact wp_label (hQ μ a w (Sub.refl μ) hS hfr rfl)
 | ret =>
  intro fr H e fr' H' h μ w a Q hS hfr hQ
  simp only [exec, ret3, Option.some.injEq, Prod.mk.injEq] at h
  obtain ⟨rfl, rfl, rfl⟩ := h
  exact wp_ret (hQ μ a w (Sub.refl μ) hS hfr rfl)
 | other c =>
  intro fr H e fr' H' h
  simp [exec] at h
end
end Go.Proofs.Ythjkodbinkiifaa.Am
namespace Go.Proofs.Ythjkodbinkiifaa.Am
open Go Go.RowKit

theorem VRel.back {μ μ' : PMap} (hs : Sub μ μ') {x v0 : Value} (h : VRel μ x v0) : ∀ {v' : Value}, VRel μ' x v' → VRel μ x v' := by
 induction h with
 | any v => intro v' _; exact .any v'
 | skipped =>
  intro v' h
  cases h with
  | skipped => exact .skipped
  | base v hp => simp [plain0] at hp
  | tuple cs cs' hs' hr =>
   refine .tuple _ _ hs' fun i x y hx hy => ?_
   have : x = .tuple #[] := by
    cases i with
    | zero => simpa using hx.symm
    | succ i => simp at hx
   subst this
   exact .any y
 | base v hp => intro v' h; rw [h.plain_inv hp]; exact .base v hp
 | ptr id off L m hm =>
  intro v' h
  obtain ⟨m', hm', rfl⟩ := h.ptr_inv
  rw [hs _ _ _ hm] at hm'; cases hm'
  exact .ptr id off L m hm
 | gptr g off =>
  intro v' h
  rw [h.gptr_inv]
  exact .gptr g off
 | slice id off L n c c' m hm hc hcap =>
  intro v' h
  obtain ⟨m', c2, hm', hc2, hcap2, rfl⟩ := h.slice_inv
  rw [hs _ _ _ hm] at hm'; cases hm'
  exact .slice id off L n c c2 m hm hc2 hcap2
 | empty b =>
  intro v' h
  cases h with
  | base v hp => simp [plain0] at hp
  | empty b => exact .empty b
 | lost b o c =>
  intro v' h
  cases h with
  | base v hp => simp [plain0] at hp
  | lost b o c => exact .lost b o c
 | map id m hm =>
  intro v' h
  obtain ⟨m', hm', rfl⟩ := h.map_inv
  rw [hs _ _ _ hm] at hm'; cases hm'
  exact .map id m hm
 | func f fi fi' cap cap' hsz1 hr1 hsz hr ih1 ih =>
  intro v' h
  cases h with
  | base v hp => simp [plain0] at hp
  | func f fi fi2 cap cap2 hsz3 hr3 hsz2 hr2 =>
   refine .func f fi fi2 cap cap2 hsz3 (fun i x y hx hy => ?_) hsz2 fun i x y hx hy => ?_
   ·have hi : i < fi'.size := by rw [← hsz1]; exact (Array.getElem?_eq_some_iff.1 hx).1
    exact ih1 i x fi'[i] hx (Array.getElem?_eq_getElem hi) (hr3 i x y hx hy)
   ·have hi : i < cap'.size := by rw [← hsz]; exact (Array.getElem?_eq_some_iff.1 hx).1
    exact ih i x cap'[i] hx (Array.getElem?_eq_getElem hi) (hr2 i x y hx hy)
 | agg cs cs' hsz hr ih =>
  intro v' h
  cases h with
  | base v hp => simp [plain0] at hp
  | agg cs cs2 hsz2 hr2 =>
   refine .agg cs cs2 hsz2 fun i x y hx hy => ?_
   have hi : i < cs'.size := by rw [← hsz]; exact (Array.getElem?_eq_some_iff.1 hx).1
   exact ih i x cs'[i] hx (Array.getElem?_eq_getElem hi) (hr2 i x y hx hy)
 | tuple cs cs' hsz hr ih =>
  intro v' h
  cases h with
  | any => exact .any _
  | skipped => exact .skipped
  | base v hp => simp [plain0] at hp
  | tuple cs cs2 hsz2 hr2 =>
   refine .tuple cs cs2 hsz2 fun i x y hx hy => ?_
   have hi : i < cs'.size := by rw [← hsz]; exact (Array.getElem?_eq_some_iff.1 hx).1
   exact ih i x cs'[i] hx (Array.getElem?_eq_getElem hi) (hr2 i x y hx hy)

/-- The names of what is kept. -/
def μK (m : Nat) (μ μ' : PMap) (H' : AHeap) (olds : List Nat) : PMap := fun id L =>
 if id < m then μ id L else
  match olds[id - m]? with
  | some o =>
   match H'[o]? with
   | some (.cells cs _ _ _) => if L = cs.length then μ' o L else none
   | _ => none
  | none => none

structure Kept (m : Nat) (H' : AHeap) (olds : List Nat) (acc : List AObj) : Prop where
 len : olds.length = acc.length
 at_ : ∀ (j id : Nat), olds[j]? = some id → m ≤ id ∧ ∃ cs e wr md, H'[id]? = some (.cells cs e wr md) ∧ acc[j]? = some (.cells cs e wr md) ∧ cs.all plain0 = true

theorem VRel.plain1_any {μ μ2 : PMap} {v v' : Value} (hp : plain1 v = true) (h : VRel μ v v') : VRel μ2 v v' := by
 rw [h.plain1_inv hp]; exact VRel.of_plain1 hp

theorem sliceIds_other {v : Value} {vs : List Value} (h : ∀ id off L n c, v ≠ .slice (some ⟨id, off, some L⟩) n c) : sliceIds (v :: vs) = sliceIds vs := by
 cases v with
 | slice a n c =>
  cases a with
  | none => rfl
  | some a =>
   obtain ⟨b, o, s⟩ := a
   cases s with
   | none => rfl
   | some L => exact absurd rfl (h b o L n c)
 | _ => rfl

theorem keepAll_sound {m : Nat} {μ μ' : PMap} {H' : AHeap} : ∀ (vs vs' : List Value) (acc : List AObj) (pre : List Nat) (r : List Value × List AObj), keepAll m H' vs acc = some r → Kept m H' pre acc → LRel μ' vs vs' →
  ∃ olds, olds = pre ++ sliceIds vs ∧ Kept m H' olds r.2 ∧ LRel (μK m μ μ' H' olds) r.1 vs'
 | [], vs', acc, pre, r, h, hK, hr => by
  simp only [keepAll, Option.some.injEq] at h
  subst h
  have : vs' = [] := List.eq_nil_of_length_eq_zero hr.1.symm
  subst this
  exact ⟨pre, by simp [sliceIds], hK, LRel.nil _⟩
 | v :: vs, vs', acc, pre, r, h, hK, hr => by
  match vs', hr with
  | v' :: vs', hr =>
   have hv : VRel μ' v v' := hr.2 0 v v' rfl rfl
   have hrest : LRel μ' vs vs' := ⟨by simpa using hr.1, fun i x y hx hy => hr.2 (i + 1) x y (by simpa using hx) (by simpa using hy)⟩
   simp only [keepAll] at h
   obtain ⟨⟨v2, acc2⟩, h1, h2⟩ := bind_some' h
   obtain ⟨⟨vs2, acc3⟩, h3, rfl⟩ := map_some' h2
   unfold keep1 at h1
   split at h1
   ·rename_i id off L n c _
    split at h1
    ·cases h1
    ·rename_i hid
     split at h1
     ·rename_i cs e wr md hh
      split at h1
      ·rename_i hc
       obtain ⟨hpl, rfl⟩ := hc
       cases h1
       have hK2 : Kept m H' (pre ++ [id]) (acc ++ [.cells cs e wr md]) := by
        refine ⟨by simp [hK.len], fun j id' hj => ?_⟩
        by_cases hjl : j < pre.length
        ·rw [List.getElem?_append_left hjl] at hj
         obtain ⟨a1, cs', e', wr', md', a2, a3, a4⟩ := hK.at_ j id' hj
         exact ⟨a1, cs', e', wr', md', a2, by rw [List.getElem?_append_left (by rw [← hK.len]; exact hjl)]; exact a3, a4⟩
        ·rw [List.getElem?_append_right (by omega)] at hj
         have hj0 : j - pre.length = 0 := by
          have := (List.getElem?_eq_some_iff.1 hj).1
          simp at this; omega
         rw [hj0] at hj
         simp at hj; subst hj
         have hjj : j = acc.length := by have := hK.len; omega
         refine ⟨by omega, cs, e, wr, md, hh, ?_, hpl⟩
         rw [hjj]; simp
       obtain ⟨olds, rfl, hK3, hR⟩ := keepAll_sound (μ := μ) vs vs' _ (pre ++ [id]) _ h3 hK2 hrest
       refine ⟨_, by simp [sliceIds], hK3, LRel.cons ?_ hR⟩
       obtain ⟨p, c', hp, hcc, hcap, rfl⟩ := hv.slice_inv
       refine .slice _ off _ n c c' p ?_ hcc hcap
       unfold μK
       rw [if_neg (by omega)]
       have hl : m + acc.length - m = pre.length := by have := hK.len; omega
       rw [hl, List.append_assoc, List.getElem?_append_right (Nat.le_refl _)]
       simp [hh, hp]
      ·cases h1
     ·cases h1
   ·cases h1
    obtain ⟨olds, rfl, hK3, hR⟩ := keepAll_sound (μ := μ) vs vs' _ pre _ h3 hK hrest
    refine ⟨_, by simp [sliceIds], hK3, LRel.cons ?_ hR⟩
    cases hv with
    | base v hp => simp [plain0] at hp
    | empty b1 => exact .empty b1
    | lost b1 o1 c1 => exact .lost b1 o1 c1
   ·rename_i hn1 hn2
    split at h1
    ·rename_i hp
     cases h1
     obtain ⟨olds, rfl, hK3, hR⟩ := keepAll_sound (μ := μ) vs vs' _ pre _ h3 hK hrest
     exact ⟨_, by rw [sliceIds_other hn1], hK3, LRel.cons (hv.plain1_any hp) hR⟩
    ·cases h1

theorem noDup_ne : ∀ {l : List Nat}, noDup l = true → ∀ {i j : Nat} {x : Nat}, l[i]? = some x → l[j]? = some x → i = j
 | [], _, i, j, x, hi, _ => by simp at hi
 | a :: l, h, i, j, x, hi, hj => by
  simp only [noDup, Bool.and_eq_true, Bool.not_eq_true'] at h
  have hna : a ∉ l := by simpa using h.1
  cases i with
  | zero =>
   cases j with
   | zero => rfl
   | succ j =>
    simp at hi hj
    subst hi
    exact absurd (List.mem_of_getElem? hj) hna
  | succ i =>
   cases j with
   | zero =>
    simp at hi hj
    subst hj
    exact absurd (List.mem_of_getElem? hi) hna
   | succ j =>
    have := noDup_ne h.2 (by simpa using hi) (by simpa using hj)
    omega

theorem tupled_rel {μ : PMap} {vs vs' : List Value} (h : LRel μ vs vs') : VRel μ (tupled vs) (tupled vs') := by
 match vs, vs', h with
 | [v], [v'], h => exact h.2 0 v v' rfl rfl
 | [], [], h => exact .any _
 | a :: b :: l, a' :: b' :: l', h => exact VRel.mk_tuple h
 | [], _ :: _, h => exact absurd h.1 (by simp)
 | [_], [], h => exact absurd h.1 (by simp)
 | [_], _ :: _ :: _, h => exact absurd h.1 (by simp)
 | _ :: _ :: _, [], h => exact absurd h.1 (by simp)
 | _ :: _ :: _, [_], h => exact absurd h.1 (by simp)

theorem gc_sound {P : Program} {w0 w w' : World} {μ μ' : PMap} {H H' : AHeap} {vs vs' : List Value} (hS : Sim P w0 μ H w) (hS' : Sim P w0 μ' H' w') (hsub : Sub μ μ') (hk : Keeps H.length H H') (hr : LRel μ' vs vs') :
  ∃ μ2, Sub μ μ2 ∧ VRel μ2 (gc H vs H').1 (tupled vs') ∧ Sim P w0 μ2 (gc H vs H').2 w' := by
 have stay : ∃ μ2, Sub μ μ2 ∧ VRel μ2 (tupled vs) (tupled vs') ∧ Sim P w0 μ2 H' w' := ⟨μ', hsub, tupled_rel hr, hS'⟩
 unfold gc
 simp only [gcHeap]
 split
 case isFalse => exact stay
 rename_i hnd
 split
 case h_2 => exact stay
 rename_i r hkeep
 obtain ⟨olds, hold, hK, hR⟩ := keepAll_sound (μ := μ) vs vs' [] [] r hkeep ⟨rfl, fun j id hj => by simp at hj⟩ hr
 simp only [List.nil_append] at hold
 subst hold
 have hsubK : Sub μ (μK H.length μ μ' H' (sliceIds vs)) := fun id L p hp => by
  unfold μK
  rw [if_pos (hS.dom id L p hp).1]
  exact hp
 have hlow : ∀ id L, id < H.length → μK H.length μ μ' H' (sliceIds vs) id L = μ id L := fun id L hi => by unfold μK; rw [if_pos hi]
 have hhigh : ∀ id L p, ¬ id < H.length → μK H.length μ μ' H' (sliceIds vs) id L = some p → ∃ o cs e wr md, (sliceIds vs)[id - H.length]? = some o ∧ H'[o]? = some (.cells cs e wr md) ∧ L = cs.length ∧ μ' o L = some p := by
  intro id L p hi hp
  unfold μK at hp
  rw [if_neg hi] at hp
  split at hp
  ·rename_i o ho
   split at hp
   ·rename_i cs e wr md hh
    split at hp
    ·rename_i hL
     exact ⟨o, cs, e, wr, md, ho, hh, hL, hp⟩
    ·cases hp
   ·cases hp
  ·cases hp
 have hget : ∀ id o, (H ++ r.2)[id]? = some o → (id < H.length ∧ H'[id]? = some o ∧ H[id]? = some o) ∨
   (¬ id < H.length ∧ ∃ k cs e wr md, (sliceIds vs)[id - H.length]? = some k ∧ H'[k]? = some (.cells cs e wr md) ∧ o = .cells cs e wr md ∧ cs.all plain0 = true ∧ H.length ≤ k) := by
  intro id o ho
  by_cases hi : id < H.length
  ·rw [List.getElem?_append_left hi] at ho
   exact .inl ⟨hi, by rw [hk.2 id hi]; exact ho, ho⟩
  ·rw [List.getElem?_append_right (by omega)] at ho
   have hj : id - H.length < (sliceIds vs).length := by rw [hK.len]; exact (List.getElem?_eq_some_iff.1 ho).1
   obtain ⟨k1, cs, e, wr, md, k2, k3, k4⟩ := hK.at_ _ _ (List.getElem?_eq_getElem hj)
   rw [ho] at k3
   cases k3
   exact .inr ⟨hi, _, cs, e, wr, md, List.getElem?_eq_getElem hj, k2, rfl, k4, k1⟩
 refine ⟨μK H.length μ μ' H' (sliceIds vs), hsubK, tupled_rel hR, hS'.below, fun id L p hp => ?_, fun id L p hp hh => ?_, fun id L p cs e wr md hp ho => ?_, fun id o ho => ?_, ?_, hS'.gl⟩
 ·by_cases hi : id < H.length
  ·rw [hlow id L hi] at hp
   refine ⟨by simp; omega, (hS'.dom id L p (hsub _ _ _ hp)).2⟩
  ·obtain ⟨o, cs, e, wr, md, h1, h2, h3, h4⟩ := hhigh id L p hi hp
   have hj := (List.getElem?_eq_some_iff.1 h1).1
   refine ⟨by have := hK.len; simp; omega, (hS'.dom o L p h4).2⟩
 ·rcases hget id _ hh with ⟨hi, _, h2⟩ | ⟨_, k, cs, e, wr, md, _, _, g3, _⟩
  ·rw [hlow id L hi] at hp
   exact hS.nohole id L p hp h2
  ·cases g3
 ·by_cases hi : id < H.length
  ·rw [hlow id L hi] at hp
   rw [List.getElem?_append_left hi] at ho
   exact hS.ver id L p cs e wr md hp ho
  ·obtain ⟨o, cs2, e2, wr2, md2, h1, h2, h3, h4⟩ := hhigh id L p hi hp
   rcases hget id _ ho with ⟨hi2, _⟩ | ⟨_, k, cs3, e3, wr3, md3, g1, g2, g3, _⟩
   ·exact absurd hi2 hi
   ·rw [h1] at g1; cases g1
    rw [h2] at g2; cases g2
    cases g3
    omega
 ·rcases hget id o ho with ⟨hi, h1, h2⟩ | ⟨hi, k, cs, e, wr, md, g1, g2, rfl, g4, g5⟩
  ·have o1 := hS.ok id o h2
   have o2 := hS'.ok id o h1
   cases o with
   | cells cs e wr md =>
    obtain ⟨a1, ⟨m0, a2⟩, a3⟩ := o1
    obtain ⟨b1, _, b3⟩ := o2
    refine ⟨a1, ⟨m0, by rw [hlow id _ hi]; exact a2⟩, fun L p q1 q2 q3 => ?_⟩
    rw [hlow id L hi] at q3
    obtain ⟨c1, c2⟩ := a3 L p q1 q2 q3
    obtain ⟨d1, d2⟩ := b3 L p q1 q2 (hsub _ _ _ q3)
    refine ⟨fun i x hxi hx => ?_, d2⟩
    obtain ⟨v0, _, hv0⟩ := c1 i x hxi hx
    obtain ⟨v1, hv1, hv1r⟩ := d1 i x hxi hx
    exact ⟨v1, hv1, (hv0.back hsub hv1r).mono hsubK⟩
   | map es =>
    obtain ⟨p, a1, a2, es1, cl1, a3, a4, a5⟩ := o1
    obtain ⟨p2, b1, b2, es2, cl2, b3, b4, b5⟩ := o2
    have : p2 = p := by rw [hsub _ _ _ a1] at b1; exact (Option.some.inj b1).symm
    subst this
    refine ⟨p2, by rw [hlow id 0 hi]; exact a1, a2, es2, cl2, b3, b4, fun i x y hx hy => ?_⟩
    have hi1 : i < es1.size := by rw [a4]; exact (List.getElem?_eq_some_iff.1 hx).1
    obtain ⟨_, _, e1⟩ := a5 i x es1[i] hx (Array.getElem?_eq_getElem hi1)
    obtain ⟨f1, f2, f3⟩ := b5 i x y hx hy
    exact ⟨f1, f2, (e1.back hsub f3).mono hsubK⟩
   | hole => trivial
   | iter s pos =>
    obtain ⟨p, a1, a2, a3, _⟩ := o1
    obtain ⟨p2, b1, b2, b3, b4⟩ := o2
    have : p2 = p := by rw [hsub _ _ _ a1] at b1; exact (Option.some.inj b1).symm
    subst this
    exact ⟨p2, by rw [hlow id 0 hi]; exact a1, a2, a3, b4⟩
  ·obtain ⟨a1, ⟨m0, a2⟩, a3⟩ := hS'.ok k _ g2
   have hat : ∀ L p, μK H.length μ μ' H' (sliceIds vs) id L = some p → L = cs.length ∧ μ' k L = some p := by
    intro L p hp
    obtain ⟨o, cs2, e2, wr2, md2, h1, h2, h3, h4⟩ := hhigh id L p hi hp
    rw [g1] at h1; cases h1
    rw [g2] at h2; cases h2
    exact ⟨h3, h4⟩
   refine ⟨a1, ⟨m0, ?_⟩, fun L p q1 q2 q3 => ?_⟩
   ·unfold μK
    rw [if_neg hi, g1]
    simp [g2, a2]
   ·obtain ⟨rfl, q4⟩ := hat L p q3
    obtain ⟨c1, c2⟩ := a3 cs.length p q1 q2 q4
    refine ⟨fun i x hxi hx => ?_, c2⟩
    obtain ⟨v1, hv1, hv1r⟩ := c1 i x hxi hx
    have hpx := List.all_eq_true.1 g4 x (List.mem_of_getElem? hx)
    exact ⟨v1, hv1, by rw [hv1r.plain_inv hpx]; exact .base x hpx⟩
 ·intro id id' o o' L L' p p' hne ho ho' hw hl hl' hp hp'
  have key : ∀ id o L p, (H ++ r.2)[id]? = some o → lives o L → μK H.length μ μ' H' (sliceIds vs) id L = some p → ∃ k, H'[k]? = some o ∧ μ' k L = some p ∧ ((id < H.length ∧ k = id) ∨ (¬ id < H.length ∧ H.length ≤ k ∧ (sliceIds vs)[id - H.length]? = some k)) := by
   intro id o L p ho hl hp
   rcases hget id o ho with ⟨hi, h1, h2⟩ | ⟨hi, k, cs, e, wr, md, g1, g2, rfl, g4, g5⟩
   ·rw [hlow id L hi] at hp
    exact ⟨id, h1, hsub _ _ _ hp, .inl ⟨hi, rfl⟩⟩
   ·obtain ⟨o2, cs2, e2, wr2, md2, h1, h2, h3, h4⟩ := hhigh id L p hi hp
    rw [g1] at h1; cases h1
    exact ⟨k, g2, h4, .inr ⟨hi, g5, g1⟩⟩
  obtain ⟨k, a1, a2, a3⟩ := key id o L p ho hl hp
  obtain ⟨k', b1, b2, b3⟩ := key id' o' L' p' ho' hl' hp'
  refine hS'.sep k k' o o' L L' p p' (fun e => ?_) a1 b1 hw hl hl' a2 b2
  subst e
  rcases a3 with ⟨c1, c2⟩ | ⟨c1, c2, c3⟩
  ·rcases b3 with ⟨d1, d2⟩ | ⟨d1, d2, d3⟩
   ·omega
   ·omega
  ·rcases b3 with ⟨d1, d2⟩ | ⟨d1, d2, d3⟩
   ·omega
   ·have := noDup_ne hnd c3 d3
    omega

/-! ### Results, calls -/
theorem aresults_sound {P : Program} {w0 w : World} {μ : PMap} {H : AHeap} {nt : Nat} {fr : Frame} {a : Act} (hS : Sim P w0 μ H w) (hfr : FrRel μ nt fr a) : ∀ (rs : List ResultVar) (vs : List Value), aresults P fr H rs = some vs →
  ∃ vs', (rs.mapM fun (r : ResultVar) => (match r with
   | .tmp t => pure (a.tmps.getD t undef)
   | .cell x t => do loadVar t (← asAddr (a.tmps.getD x undef)) : Sem Value)).run P w = .ok vs' w ∧ LRel μ vs vs'
 | [], vs, h => by
  simp only [aresults, Option.some.injEq] at h
  subst h
  exact ⟨[], rfl, LRel.nil μ⟩
 | r :: rs, vs, h => by
  simp only [aresults] at h
  obtain ⟨v, h1, h2⟩ := bind_some' h
  obtain ⟨vs2, h3, rfl⟩ := map_some' h2
  obtain ⟨vs', h4, h5⟩ := aresults_sound hS hfr rs vs2 h3
  cases r with
  | tmp t =>
   simp only [aresult, Option.some.injEq] at h1
   subst h1
   refine ⟨a.tmps.getD t undef :: vs', ?_, LRel.cons (hfr.2 t) h5⟩
   simp only [List.mapM_cons, Sem.run_bind, Sem.run_pure, Result.andThen_ok, h4]
  | cell x t =>
   simp only [aresult] at h1
   obtain ⟨v', hv1, hv2⟩ := aload_sound hS h1 (hfr.2 x)
   refine ⟨v' :: vs', ?_, LRel.cons hv2 h5⟩
   have hasp : ∃ ad, a.tmps.getD x undef = .pointer (some ad) := by
    have hx := hfr.2 x
    unfold aload at h1
    split at h1
    ·rename_i he
     rw [he] at hx
     obtain ⟨m, _, hh⟩ := hx.ptr_inv
     exact ⟨_, hh⟩
    ·rename_i he
     rw [he] at hx
     exact ⟨_, hx.gptr_inv⟩
    ·cases h1
   obtain ⟨ad, had⟩ := hasp
   rw [had] at hv1
   have hv1' : (loadVar t ad).run P w = .ok v' w := by simpa [Instr.loadAt, Instr.sureAddr] using hv1
   have has : (asAddr (a.tmps.getD x undef)).run P w = .ok ad w := by rw [had]; rfl
   simp only [List.mapM_cons, Sem.run_bind, Sem.run_pure, Result.andThen_ok, h4, has, hv1']

structure CodeOK (C : Cfg) : Prop where
 memo : ∀ f fn v, C.code f = some fn → fn.memo = some v → ∀ (w0 : World) (H : AHeap) (μ : PMap) (w : World), Sim C.P w0 μ H w → Calls C.P f #[] w fun e w' => ∃ v' μ', e = .returned v' ∧ Sub μ μ' ∧ VRel μ' v v' ∧ Sim C.P w0 μ' H w'
 mixed : C.P.follows .mixedOrders = true
 at_ : ∀ f fn, C.code f = some fn → ∃ (func : Func) (c : Code), C.P.funcs[f]? = some func ∧ func.body = some c ∧ strip fn.body = c ∧ func.ntmps = fn.nt ∧ func.results.toList = fn.results ∧ (func.name == "runtime.NumGoroutine") = false

def ClStill (C : Cfg) (cl : FuncId → List Value → Nat → AHeap → Option (Value × AHeap)) : Prop := ∀ f args prot H v H', mtOf C f = false → cl f args prot H = some (v, H') → Keeps H.length H H'

theorem results_tupled (vs' : List Value) : (if h : vs'.toArray.size = 1 then vs'.toArray[0] else Value.tuple vs'.toArray) = tupled vs' := by
 match vs' with
 | [] => rfl
 | [v] => rfl
 | a :: b :: l => simp [tupled]

theorem callWith_sound {C : Cfg} {w0 : World} {cl : FuncId → List Value → Nat → AHeap → Option (Value × AHeap)} {n : Nat} (hC : CodeOK C) (hcl : ClSound C.P w0 cl) (hen : Entered C.P cl) (hext : ExtSound C.P C.ext) (hkp : ClKeeps cl) (hqt : ClStill C cl) (hov : ClOvl cl) :
  ClSound C.P w0 (callWith C cl (loopN n)) := by
 intro f args prot H v H' μ w args' h hS hargs
 unfold callWith at h
 split at h
 case h_1 => cases h
 rename_i fn hfn
 split at h
 case h_1 =>
  rename_i v0 hv0
  split at h
  ·rename_i hemp
   have hnil : args = [] := by simpa using hemp
   subst hnil
   have hn2 : args' = [] := List.eq_nil_of_length_eq_zero (by have := hargs.1; simp at this; omega)
   subst hn2
   cases h
   exact hC.memo f fn v hfn hv0 w0 H μ w hS
  ·cases h
 unfold callBody at h
 split at h
 case isFalse => cases h
 rename_i hlen
 obtain ⟨func, c, hf, hb, hst, hnt, hres, _⟩ := hC.at_ f fn hfn
 obtain ⟨⟨vs, H1⟩, h1, h2⟩ := map_some' h
 rw [exec_bind] at h1
 obtain ⟨⟨e, fr1, H2⟩, h3, h4⟩ := bind_some' h1
 have hG : Good w0 { P := C.P, ext := C.ext, cl := cl, lp := loopN n, nt := fn.nt, prot := if fn.muts then prot else H.length, mt := mtOf C, room := true } := ⟨hcl, hen, hext, hC.mixed, hqt, hov⟩
 have hargl : args'.length = args.length := hargs.1.symm
 have hfr : FrRel μ fn.nt (fun t => args.getD t undef) { tmps := args'.toArray ++ Array.replicate (func.ntmps - args'.toArray.size) undef, defers := [] } := by
  refine ⟨by simp; omega, fun t => ?_⟩
  by_cases ht : t < args.length
  ·have hy := hargs.2 t args[t] (args'[t]'(by omega)) (List.getElem?_eq_getElem ht) (List.getElem?_eq_getElem (by omega))
   have h1 : args.getD t undef = args[t] := by simp [List.getD, List.getElem?_eq_getElem ht]
   have h2 : (args'.toArray ++ Array.replicate (func.ntmps - args'.toArray.size) undef).getD t undef = args'[t]'(by omega) := by
    rw [Array.getD_eq_getD_getElem?, Array.getElem?_append_left (by simpa using (by omega : t < args'.length))]
    simp [List.getElem?_eq_getElem (show t < args'.length by omega)]
   show VRel μ (args.getD t undef) _
   rw [h1]
   show VRel μ args[t] ((args'.toArray ++ Array.replicate (func.ntmps - args'.toArray.size) undef).getD t undef)
   rw [h2]
   exact hy
  ·have h1 : args.getD t undef = undef := by simp [List.getD, List.getElem?_eq_none (Nat.le_of_not_lt ht)]
   show VRel μ (args.getD t undef) _
   rw [h1]
   exact .any _
 refine calls_of_wp hf hb ?_
 rw [← hst]
 refine exec_wp hG n rfl fn.body _ H e fr1 H2 h3 μ w _ _ hS hfr fun μ' a' w' s hS' hfr' hd => ?_
 have fin : (aresults C.P fr1 H2 fn.results).map (fun vs => (vs, H2)) = some (vs, H1) → ∃ u, (results func a'.tmps).run C.P w' = .ok u w' ∧ ∃ v' μ2, Ending.returned u = .returned v' ∧ Sub μ μ2 ∧ VRel μ2 v v' ∧ Sim C.P w0 μ2 H' w' := by
  intro hm
  obtain ⟨vs0, hv0, hv1⟩ := map_some' hm
  simp only [Prod.mk.injEq] at hv1
  obtain ⟨rfl, rfl⟩ := hv1
  obtain ⟨vs', hrun, hrel⟩ := aresults_sound hS' hfr' fn.results vs0 hv0
  refine ⟨tupled vs', ?_, tupled vs', ?_⟩
  ·have : (func.results.mapM fun (r : ResultVar) => (match r with
     | .tmp t => pure (a'.tmps.getD t undef)
     | .cell x t => do loadVar t (← asAddr (a'.tmps.getD x undef)) : Sem Value)).run C.P w' = .ok vs'.toArray w' := by
    rw [Array.mapM_eq_mapM_toList, hres]
    simp only [Sem.run_map, hrun, Result.andThen_ok]
   unfold results
   rw [Sem.run_bind]
   refine (congrArg (fun x => Result.andThen x _) this).trans ?_
   simp only [Result.andThen_ok, Sem.run_pure, results_tupled]
  ·cases hmut : fn.muts with
   | true =>
    rw [hmut] at h2
    simp only [if_true, Prod.mk.injEq] at h2
    obtain ⟨rfl, rfl⟩ := h2
    exact ⟨μ', rfl, s, tupled_rel hrel, hS'⟩
   | false =>
    rw [hmut] at h2
    simp only [Bool.false_eq_true, if_false] at h2
    have hke := exec_keepsH (S := { P := C.P, ext := C.ext, cl := cl, lp := loopN n, nt := fn.nt, prot := if fn.muts then prot else H.length, mt := mtOf C, room := true }) hkp n rfl fn.body _ H e fr1 H2 h3 (by simp [hmut])
    simp only [hmut, Bool.false_eq_true, if_false] at hke
    obtain ⟨μ2, g1, g2, g3⟩ := gc_sound hS hS' s hke hrel
    rw [h2] at g2 g3
    exact ⟨μ2, rfl, g1, g2, g3⟩
 cases e with
 | normal => exact ⟨hd, fin h4⟩
 | exit k => cases h4
 | ret => exact ⟨hd, fin h4⟩

theorem gc_keeps {H H' : AHeap} {vs : List Value} (h : Keeps H.length H H') : Keeps H.length H (gc H vs H').2 := by
 unfold gc
 simp only [gcHeap]
 split
 ·split
  ·exact Keeps.append (Nat.le_refl _) _
  ·exact h
 ·exact h

theorem callWith_keeps {C : Cfg} {cl : FuncId → List Value → Nat → AHeap → Option (Value × AHeap)} {n : Nat} (hkp : ClKeeps cl) : ClKeeps (callWith C cl (loopN n)) := by
 intro f args prot H v H' h hp
 unfold callWith at h
 split at h
 case h_1 => cases h
 rename_i fn hfn
 split at h
 case h_1 =>
  split at h
  ·cases h; exact Keeps.refl _ _
  ·cases h
 unfold callBody at h
 split at h
 case isFalse => cases h
 obtain ⟨⟨vs, H1⟩, h1, h2⟩ := map_some' h
 rw [exec_bind] at h1
 obtain ⟨⟨e, fr1, H2⟩, h3, h4⟩ := bind_some' h1
 have hH : H2 = H1 := by
  cases e with
  | exit k => cases h4
  | normal => obtain ⟨vs0, _, hv1⟩ := map_some' h4; simp at hv1; exact hv1.2
  | ret => obtain ⟨vs0, _, hv1⟩ := map_some' h4; simp at hv1; exact hv1.2
 subst hH
 cases hmut : fn.muts with
 | true =>
  have hke := exec_keepsH (S := { P := C.P, ext := C.ext, cl := cl, lp := loopN n, nt := fn.nt, prot := if fn.muts then prot else H.length, mt := mtOf C, room := true }) hkp n rfl fn.body _ H e fr1 H2 h3 (by simp [hmut]; exact hp)
  simp only [hmut, if_true] at hke h2
  simp only [Prod.mk.injEq] at h2
  rw [← h2.2]; exact hke
 | false =>
  have hke := exec_keepsH (S := { P := C.P, ext := C.ext, cl := cl, lp := loopN n, nt := fn.nt, prot := if fn.muts then prot else H.length, mt := mtOf C, room := true }) hkp n rfl fn.body _ H e fr1 H2 h3 (by simp [hmut])
  simp only [hmut, Bool.false_eq_true, if_false] at hke h2
  have := gc_keeps (vs := vs) hke
  rw [h2] at this
  exact this.mono hp

theorem callWith_still {C : Cfg} {cl : FuncId → List Value → Nat → AHeap → Option (Value × AHeap)} {n : Nat} (hkp : ClKeeps cl) : ClStill C (callWith C cl (loopN n)) := by
 intro f args prot H v H' hmt h
 unfold callWith at h
 split at h
 case h_1 => cases h
 rename_i fn hfn
 have hmut : fn.muts = false := by
  unfold mtOf at hmt
  rw [hfn] at hmt
  simpa using hmt
 split at h
 case h_1 =>
  split at h
  ·cases h; exact Keeps.refl _ _
  ·cases h
 unfold callBody at h
 split at h
 case isFalse => cases h
 obtain ⟨⟨vs, H1⟩, h1, h2⟩ := map_some' h
 rw [exec_bind] at h1
 obtain ⟨⟨e, fr1, H2⟩, h3, h4⟩ := bind_some' h1
 have hH : H2 = H1 := by
  cases e with
  | exit k => cases h4
  | normal => obtain ⟨vs0, _, hv1⟩ := map_some' h4; simp at hv1; exact hv1.2
  | ret => obtain ⟨vs0, _, hv1⟩ := map_some' h4; simp at hv1; exact hv1.2
 subst hH
 have hke := exec_keepsH (S := { P := C.P, ext := C.ext, cl := cl, lp := loopN n, nt := fn.nt, prot := if fn.muts then prot else H.length, mt := mtOf C, room := true }) hkp n rfl fn.body _ H e fr1 H2 h3 (by simp [hmut])
 simp only [hmut, Bool.false_eq_true, if_false] at hke h2
 have := gc_keeps (vs := vs) hke
 rw [h2] at this
 exact this

theorem callWith_entered {C : Cfg} {cl : FuncId → List Value → Nat → AHeap → Option (Value × AHeap)} {lp : (LS → Option (LS ⊕ LO)) → LS → Option LO} (hC : CodeOK C) : Entered C.P (callWith C cl lp) := by
 intro f args prot H r h args' w
 unfold callWith at h
 split at h
 case h_1 => cases h
 rename_i fn hfn
 obtain ⟨func, c, hf, hb, _, _, _, hname⟩ := hC.at_ f fn hfn
 have hn' : ¬ func.name = "runtime.NumGoroutine" := by simpa using hname
 simp [callFunc, hf, hn', hb]

theorem callN_sound {C : Cfg} (hC : CodeOK C) (hext : ExtSound C.P C.ext) (n : Nat) (w0 : World) : ∀ d, ClSound C.P w0 (callN C n d) ∧ Entered C.P (callN C n d) ∧ ClKeeps (callN C n d) ∧ ClStill C (callN C n d) ∧ ClOvl (callN C n d)
 | 0 => ⟨fun _ _ _ _ _ _ _ _ _ h => by simp [callN] at h, fun _ _ _ _ _ h => by simp [callN] at h, fun _ _ _ _ _ _ h => by simp [callN] at h, fun _ _ _ _ _ _ _ h => by simp [callN] at h, fun _ _ _ _ _ _ _ _ h => by simp [callN] at h⟩
 | d + 1 =>
  let ⟨h1, h2, h3, h4, h5⟩ := callN_sound hC hext n w0 d
  ⟨callWith_sound hC h1 h2 hext h3 h4 h5, callWith_entered hC, callWith_keeps h3, callWith_still h3, callWith_ovl h5⟩

end Go.Proofs.Ythjkodbinkiifaa.Am
namespace Go.Proofs.Ythjkodbinkiifaa.Am
open Go Go.RowKit

/-! ### The machine without bounds: the limit of the bounded ones -/
abbrev Cl := FuncId → List Value → Nat → AHeap → Option (Value × AHeap)
abbrev Lp := (LS → Option (LS ⊕ LO)) → LS → Option LO

def Evt (p : Nat → Prop) : Prop := ∃ N, ∀ n, N ≤ n → p n
theorem Evt.of {p : Nat → Prop} (h : ∀ n, p n) : Evt p := ⟨0, fun n _ => h n⟩
theorem Evt.and {p q : Nat → Prop} (h : Evt p) (k : Evt q) : Evt fun n => p n ∧ q n :=
 let ⟨a, ha⟩ := h; let ⟨b, hb⟩ := k; ⟨max a b, fun n hn => ⟨ha n (by omega), hb n (by omega)⟩⟩
theorem Evt.mono {p q : Nat → Prop} (h : Evt p) (k : ∀ n, p n → q n) : Evt q := let ⟨a, ha⟩ := h; ⟨a, fun n hn => k n (ha n hn)⟩
theorem Evt.get {p : Prop} (h : Evt fun _ => p) : p := let ⟨a, ha⟩ := h; ha a (Nat.le_refl _)

def ClLim (c : Nat → Cl) (c' : Cl) : Prop := ∀ f args prot H r, c' f args prot H = some r → Evt fun n => c n f args prot H = some r
def LpLim (l : Nat → Lp) (l' : Lp) : Prop := ∀ (b : Nat → LS → Option (LS ⊕ LO)) (b' : LS → Option (LS ⊕ LO)), (∀ s x, b' s = some x → Evt fun n => b n s = some x) → ∀ s r, l' b' s = some r → Evt fun n => l n (b n) s = some r

section
variable {c : Nat → Cl} {c' : Cl} {l : Nat → Lp} {l' : Lp} {S : Sys}

def withCl (S : Sys) (c : Cl) (l : Lp) : Sys := { S with cl := c, lp := l }

theorem aop_lim (hc : ClLim c c') {o : Op} {fr : Frame} {H : AHeap} {r : Value × AHeap} (h : aop (withCl S c' l') o fr H = some r) : Evt fun n => aop (withCl S (c n) (l n)) o fr H = some r := by
 have same : (∀ n, aop (withCl S (c n) (l n)) o fr H = aop (withCl S c' l') o fr H) → Evt fun n => aop (withCl S (c n) (l n)) o fr H = some r := fun hs => Evt.of fun n => (hs n).trans h
 cases o with
 | call cc =>
  obtain ⟨callee, args, ts⟩ := cc
  cases callee with
  | builtin b => exact same fun n => rfl
  | value f =>
   have hdd : ∀ n, dynOK (withCl S (c n) (l n)) f (aeval fr f) = dynOK (withCl S c' l') f (aeval fr f) := fun n => by cases f <;> rfl
   simp only [aop, hdd]
   simp only [aop] at h
   split at h
   case h_2 => cases h
   simp only [acall] at h ⊢
   split at h
   ·split at h
    ·rename_i e he
     refine Evt.of fun n => ?_
     have he' : (withCl S (c n) (l n)).ext _ = some e := he
     simp only [he']
     exact h
    ·rename_i he
     refine (hc _ _ _ _ _ h).mono fun n hn => ?_
     have he' : (withCl S (c n) (l n)).ext _ = none := he
     simp only [he']
     exact hn
   ·cases h
  | invoke r m => cases h
 | next it s => cases s <;> exact same fun n => rfl
 | makeMap t r => cases r <;> exact same fun n => rfl
 | makeFunc f first cap => cases f <;> exact same fun n => rfl
 | _ => exact same fun n => rfl

theorem stepWith_lim {f : Nat → Op → Frame → AHeap → Option (Value × AHeap)} {f' : Op → Frame → AHeap → Option (Value × AHeap)} {nt : Nat} {ops : Array Oper} {o : Oper} {fr : Frame} {H : AHeap} {r : Frame × AHeap}
  (hf : ∀ x, f' o.op fr H = some x → Evt fun n => f n o.op fr H = some x) (h : stepWith f' nt ops o fr H ret2 = some r) : Evt fun n => stepWith (f n) nt ops o fr H ret2 = some r := by
 unfold stepWith at h ⊢
 split at h
 ·obtain ⟨x, h1, h2⟩ := bind_some' h
  exact (hf x h1).mono fun n hn => by rw [hn]; exact h2
 ·unfold onGuard at h ⊢
  split at h
  ·rename_i b hb
   cases hbw : (b == _) with
   | true =>
    rw [hbw] at h
    simp only [if_true] at h ⊢
    obtain ⟨x, h1, h2⟩ := bind_some' h
    exact (hf x h1).mono fun n hn => by rw [hn]; exact h2
   | false =>
    rw [hbw] at h
    simp only [Bool.false_eq_true, if_false] at h ⊢
    exact Evt.of fun _ => h
  ·simp only [Bool.false_eq_true, if_false] at h ⊢
   exact Evt.of fun _ => h
  ·cases h

theorem runOps_lim (hc : ClLim c c') {ops : Array Oper} : ∀ (os : List Oper) {fr : Frame} {H : AHeap} {r : Frame × AHeap}, runOps (withCl S c' l') ops os fr H ret2 = some r → Evt fun n => runOps (withCl S (c n) (l n)) ops os fr H ret2 = some r
 | [], fr, H, r, h => Evt.of fun _ => h
 | o :: os, fr, H, r, h => by
  obtain ⟨fr1, H1, h1, h2⟩ := runOps_cons (fr' := r.1) (H' := r.2) h
  have k1 := stepWith_lim (f := fun n => aop (withCl S (c n) (l n))) (fun x hx => aop_lim hc hx) h1
  refine (k1.and (runOps_lim hc os h2)).mono fun n hn => ?_
  simp only [runOps]
  rw [stepOp_bind]
  unfold stepOp
  rw [show (withCl S (c n) (l n)).nt = (withCl S c' l').nt from rfl, hn.1]
  exact hn.2

theorem aopA_lim (hc : ClLim c c') {hid : Nat} {o : Op} {fr : Frame} {H : AHeap} {r : Value × AHeap} (h : aopA (withCl S c' l') hid o fr H = some r) : Evt fun n => aopA (withCl S (c n) (l n)) hid o fr H = some r := by
 unfold aopA at h ⊢
 split at h
 case isFalse => cases h
 rename_i hfb
 obtain ⟨x, h1, h2⟩ := bind_some' h
 exact (aop_lim hc h1).mono fun n hn => by rw [if_pos hfb, hn]; exact h2

theorem runI_lim (hc : ClLim c c') {rsv : Bool} {ops : Array Oper} {base : Nat} : ∀ (is : List Nat) {fr : Frame} {H : AHeap} {r : Frame × AHeap}, runI (withCl S c' l') rsv ops base is fr H ret2 = some r → Evt fun n => runI (withCl S (c n) (l n)) rsv ops base is fr H ret2 = some r
 | [], fr, H, r, h => Evt.of fun _ => h
 | i :: is, fr, H, r, h => by
  obtain ⟨fr1, H1, h1, h2⟩ := runI_cons (fr' := r.1) (H' := r.2) h
  have k1 : Evt fun n => stepI (withCl S (c n) (l n)) rsv ops base i fr H ret2 = some (fr1, H1) := by
   unfold stepI at h1 ⊢
   cases ho : ops[i]? with
   | none => rw [ho] at h1; cases h1
   | some o =>
    rw [ho] at h1
    simp only at h1 ⊢
    exact stepWith_lim (f := fun n => runnerI (withCl S (c n) (l n)) rsv ops base i) (fun x hx => by
     have hkd : ∀ n j, kdAt (withCl S (c n) (l n)) true ops j = kdAt (withCl S c' l') true ops j := fun n j => rfl
     have hrk : ∀ n, rankA (withCl S (c n) (l n)) ops i = rankA (withCl S c' l') ops i := fun n => rfl
     unfold runnerI at hx ⊢
     split at hx
     ·rename_i hb
      refine (aopA_lim (l := l) hc hx).mono fun n hn => ?_
      rw [hkd, if_pos hb, hrk]
      exact hn
     ·rename_i hb
      refine (aop_lim (l := l) hc hx).mono fun n hn => ?_
      rw [hkd, if_neg hb]
      exact hn) h1
  refine (k1.and (runI_lim hc is h2)).mono fun n hn => ?_
  simp only [runI]
  rw [stepI_bind, hn.1]
  exact hn.2

theorem drawRun_lim (hc : ClLim c c') {ops : Array Oper} {fr : Frame} {H : AHeap} {r : Frame × AHeap} (h : drawRun (withCl S c' l') ops fr H ret2 = some r) : Evt fun n => drawRun (withCl S (c n) (l n)) ops fr H ret2 = some r := by
 have hok : ∀ n rsv ord, orderOk (withCl S (c n) (l n)) rsv ops ord = orderOk (withCl S c' l') rsv ops ord := fun n rsv ord => rfl
 have hca : ∀ n, canon (withCl S (c n) (l n)) ops = canon (withCl S c' l') ops := fun n => rfl
 have hrk : ∀ n, rankA (withCl S (c n) (l n)) ops ops.size = rankA (withCl S c' l') ops ops.size := fun n => rfl
 have hdr : ∀ c l, drawn (withCl S c l) = withCl (drawn S) c l := fun c l => rfl
 have hokd : ∀ n rsv ord, orderOk (withCl (drawn S) (c n) (l n)) rsv ops ord = orderOk (drawn (withCl S c' l')) rsv ops ord := fun n rsv ord => rfl
 unfold drawRun at h ⊢
 split at h
 ·rename_i hb
  refine (runI_lim (S := S) (l := l) hc _ h).mono fun n hn => ?_
  rw [hok, if_pos hb]
  exact hn
 ·rename_i hb
  split at h
  ·rename_i hb1
   rw [hdr] at h
   refine (runI_lim (S := drawn S) (l := l) hc _ h).mono fun n hn => ?_
   rw [hok, if_neg hb, hdr, hokd, if_pos hb1]
   exact hn
  ·rename_i hb1
   split at h
   ·rename_i hb2
    rw [hdr] at h
    refine (runI_lim (S := drawn S) (l := l) hc _ h).mono fun n hn => ?_
    rw [hok, if_neg hb, hdr, hokd, if_neg hb1, if_pos (show orderOk (withCl (drawn S) (c n) (l n)) true ops (canon (withCl (drawn S) (c n) (l n)) ops) = true from hb2)]
    exact hn
   ·rename_i hb2
    split at h
    ·rename_i hb3
     obtain ⟨k1, k2⟩ := drawFar_some h
     rw [hdr] at k1
     refine (runI_lim (S := drawn S) (l := l) hc _ k1).mono fun n hn => ?_
     rw [hok, if_neg hb, hdr, hokd, if_neg hb1, if_neg (show ¬ orderOk (withCl (drawn S) (c n) (l n)) true ops (canon (withCl (drawn S) (c n) (l n)) ops) = true from hb2), if_pos (show orderOkS (withCl (drawn S) (c n) (l n)) ops = true from hb3)]
     exact drawFar_mk hn k2
    ·cases h

theorem exec_lim (hc : ClLim c c') (hl : LpLim l l') : ∀ (a : ACode) {fr : Frame} {H : AHeap} {r : R3}, exec (withCl S c' l') a R3 fr H ret3 = some r → Evt fun n => exec (withCl S (c n) (l n)) a R3 fr H ret3 = some r := by
 intro a
 have kont : ∀ (a : ACode) {β : Type} {fr : Frame} {H : AHeap} {k : Ex → Frame → AHeap → Option β} {r : β}, (∀ {fr : Frame} {H : AHeap} {r : R3}, exec (withCl S c' l') a R3 fr H ret3 = some r → Evt fun n => exec (withCl S (c n) (l n)) a R3 fr H ret3 = some r) →
   exec (withCl S c' l') a β fr H k = some r → Evt fun n => exec (withCl S (c n) (l n)) a β fr H k = some r := by
  intro a β fr H k r ih h
  rw [exec_bind] at h
  obtain ⟨x, h1, h2⟩ := bind_some' h
  exact (ih h1).mono fun n hn => by rw [exec_bind, hn]; exact h2
 induction a with
 | skip => intro fr H r h; exact Evt.of fun _ => h
 | region id ops draw =>
  intro fr H r h
  simp only [exec] at h ⊢
  cases draw with
  | true =>
   simp only [if_true] at h ⊢
   rw [drawRun_bind] at h
   obtain ⟨x, h1, h2⟩ := bind_some' h
   exact (drawRun_lim (l := l) hc (r := x) h1).mono fun n hn => by rw [drawRun_bind, hn]; exact h2
  | false =>
   simp only [Bool.false_eq_true, if_false] at h ⊢
   rw [runOps_bind] at h
   obtain ⟨x, h1, h2⟩ := bind_some' h
   exact (runOps_lim (l := l) hc ops.toList (r := x) h1).mono fun n hn => by rw [runOps_bind, hn]; exact h2
 | seq x y ihx ihy =>
  intro fr H r h
  simp only [exec] at h ⊢
  rw [exec_bind] at h
  obtain ⟨⟨e, fr1, H1⟩, h1, h2⟩ := bind_some' h
  cases e with
  | normal => exact ((ihx h1).and (ihy h2)).mono fun n hn => by rw [exec_bind, hn.1]; exact hn.2
  | exit j => exact (ihx h1).mono fun n hn => by rw [exec_bind, hn]; exact h2
  | ret => exact (ihx h1).mono fun n hn => by rw [exec_bind, hn]; exact h2
 | cond q x y lv ihx ihy =>
  intro fr H r h
  simp only [exec] at h ⊢
  unfold onBool at h ⊢
  split at h
  ·rename_i t _
   obtain ⟨z, h1, h2⟩ := bind_some' h
   cases t with
   | true =>
    simp only [if_true] at h1 ⊢
    exact (kont x ihx h1).mono fun n hn => by rw [hn]; exact h2
   | false =>
    simp only [Bool.false_eq_true, if_false] at h1 ⊢
    exact (kont y ihy h1).mono fun n hn => by rw [hn]; exact h2
  ·cases h
 | block id b lv ih =>
  intro fr H r h
  simp only [exec] at h ⊢
  obtain ⟨z, h1, h2⟩ := bind_some' h
  exact (kont b ih h1).mono fun n hn => by rw [hn]; exact h2
 | loop b lv lo ih =>
  intro fr H r h
  simp only [exec] at h ⊢
  obtain ⟨z, h1, h2⟩ := bind_some' h
  refine (hl (fun n => _) _ (fun s x hx => ?_) _ _ h1).mono fun n hn => (congrArg (fun y => Option.bind y _) hn).trans h2
  exact kont b ih hx
 | exit k => intro fr H r h; exact Evt.of fun _ => h
 | scope b ih => intro fr H r h; exact ih h
 | label x => intro fr H r h; exact Evt.of fun _ => h
 | ret => intro fr H r h; exact Evt.of fun _ => h
 | other x => intro fr H r h; simp [exec] at h

theorem callWith_lim {C : Cfg} (hc : ClLim c c') (hl : LpLim l l') : ClLim (fun n => callWith C (c n) (l n)) (callWith C c' l') := by
 intro f args prot H r h
 unfold callWith at h ⊢
 split at h
 case h_1 => cases h
 rename_i fn hfn
 split at h
 case h_1 =>
  rename_i v0 hv0
  refine Evt.of fun n => ?_
  simp only
  rw [hfn]
  simp only
  rw [hv0]
  exact h
 rename_i hmemo
 unfold callBody at h
 split at h
 case isFalse => cases h
 rename_i hlen
 obtain ⟨x, h1, h2⟩ := map_some' h
 rw [exec_bind] at h1
 obtain ⟨y, h3, h4⟩ := bind_some' h1
 refine (exec_lim (S := { P := C.P, ext := C.ext, cl := c', lp := l', nt := fn.nt, prot := if fn.muts then prot else H.length, mt := mtOf C, room := true }) (c := c) (l := l) hc hl fn.body h3).mono fun n hn => ?_
 show callWith C (c n) (l n) f args prot H = some r
 unfold callWith
 rw [hfn]
 simp only
 rw [hmemo]
 unfold callBody
 simp only
 rw [if_pos hlen, exec_bind]
 have hn' : exec { P := C.P, ext := C.ext, cl := c n, lp := l n, nt := fn.nt, prot := if fn.muts then prot else H.length, mt := mtOf C, room := true } fn.body R3 (fun t => args.getD t undef) H ret3 = some y := hn
 rw [hn', Option.bind_some, h4, Option.map_some, h2]
end

/-! ### Loops -/
theorem loopN_mono {b : LS → Option (LS ⊕ LO)} {r : LO} : ∀ (n : Nat) (s : LS), loopN n b s = some r → loopN (n + 1) b s = some r
 | 0, s, h => by simp [loopN] at h
 | n + 1, s, h => by
  unfold loopN at h ⊢
  obtain ⟨x, h1, h2⟩ := bind_some' h
  rw [h1, Option.bind_some]
  cases x with
  | inl s' => exact loopN_mono n s' h2
  | inr o => exact h2
theorem loopN_le {b : LS → Option (LS ⊕ LO)} {r : LO} {n m : Nat} (hn : n ≤ m) {s : LS} (h : loopN n b s = some r) : loopN m b s = some r := by
 induction hn with
 | refl => exact h
 | step _ ih => exact loopN_mono _ _ ih

open Classical in
/-- What some bound gives. -/
noncomputable def limit {α : Type} (p : Nat → Option α) : Option α := if h : ∃ r, ∃ n, p n = some r then some (Classical.choose h) else none

theorem limit_of {α : Type} {p : Nat → Option α} (hm : ∀ n m r, n ≤ m → p n = some r → p m = some r) {n : Nat} {r : α} (h : p n = some r) : limit p = some r := by
 unfold limit
 have hex : ∃ r, ∃ n, p n = some r := ⟨r, n, h⟩
 rw [dif_pos hex]
 obtain ⟨m, hc⟩ := Classical.choose_spec hex
 have h1 := hm n (max n m) r (by omega) h
 have h2 := hm m (max n m) _ (by omega) hc
 rw [h1] at h2
 exact h2.symm
theorem limit_some {α : Type} {p : Nat → Option α} {r : α} (h : limit p = some r) : ∃ n, p n = some r := by
 unfold limit at h
 split at h
 ·rename_i hex
  cases h
  exact Classical.choose_spec hex
 ·cases h

noncomputable def lpInf : Lp := fun b s => limit fun n => loopN n b s

theorem lpInf_of {b : LS → Option (LS ⊕ LO)} {s : LS} {n : Nat} {r : LO} (h : loopN n b s = some r) : lpInf b s = some r := limit_of (p := fun n => loopN n b s) (fun _ _ _ hn h => loopN_le hn h) h

theorem lpInf_eq (b : LS → Option (LS ⊕ LO)) (s : LS) : lpInf b s = (b s).bind fun x => match x with | .inl s' => lpInf b s' | .inr o => some o := by
 cases h : (b s).bind fun x => match x with | .inl s' => lpInf b s' | .inr o => some o with
 | some r =>
  obtain ⟨x, h1, h2⟩ := bind_some' h
  cases x with
  | inl s' =>
   obtain ⟨n, hn⟩ := limit_some h2
   exact lpInf_of (n := n + 1) (by unfold loopN; rw [h1]; exact hn)
  | inr o => exact lpInf_of (n := 1) (by unfold loopN; rw [h1]; exact h2)
 | none =>
  cases hl : lpInf b s with
  | none => rfl
  | some r =>
   obtain ⟨n, hn⟩ := limit_some hl
   cases n with
   | zero => simp [loopN] at hn
   | succ n =>
    simp only [loopN] at hn
    obtain ⟨x, h1, h2⟩ := bind_some' hn
    rw [h1] at h
    simp only [Option.bind_some] at h
    cases x with
    | inl s' =>
     have := lpInf_of h2
     simp only at h
     rw [this] at h
     cases h
    | inr o => cases h

theorem lpInf_lim : LpLim loopN lpInf := by
 intro b b' hb s r h
 obtain ⟨m, hm⟩ := limit_some h
 have key : ∀ (m : Nat) (s : LS), loopN m b' s = some r → Evt fun n => loopN m (b n) s = some r := by
  intro m
  induction m with
  | zero => intro s h; simp [loopN] at h
  | succ m ih =>
   intro s h
   simp only [loopN] at h ⊢
   obtain ⟨x, h1, h2⟩ := bind_some' h
   cases x with
   | inl s' => exact ((hb s _ h1).and (ih s' h2)).mono fun n hn => by rw [hn.1]; exact hn.2
   | inr o => exact (hb s _ h1).mono fun n hn => by rw [hn]; exact h2
 obtain ⟨N, hN⟩ := key m s hm
 exact ⟨max N m, fun n hn => loopN_le (n := m) (by omega) (hN n (by omega))⟩

theorem loopN_lim (n : Nat) {m : Nat} (h : n ≤ m) : LpLim (fun _ => loopN m) (loopN n) := by
 intro b b' hb s r hr
 have key : ∀ (k : Nat) (s : LS), loopN k b' s = some r → Evt fun n => loopN k (b n) s = some r := by
  intro m
  induction m with
  | zero => intro s h; simp [loopN] at h
  | succ m ih =>
   intro s h
   simp only [loopN] at h ⊢
   obtain ⟨x, h1, h2⟩ := bind_some' h
   cases x with
   | inl s' => exact ((hb s _ h1).and (ih s' h2)).mono fun n hn => by rw [hn.1]; exact hn.2
   | inr o => exact (hb s _ h1).mono fun n hn => by rw [hn]; exact h2
 exact (key n s hr).mono fun k hk => loopN_le h hk

/-! ### Calls -/
theorem callN_mono {C : Cfg} {n m : Nat} (hn : n ≤ m) : ∀ {d e : Nat}, d ≤ e → ∀ {f args prot H r}, callN C n d f args prot H = some r → callN C m e f args prot H = some r
 | 0, e, _, f, args, prot, H, r, h => by simp [callN] at h
 | d + 1, 0, hd, f, args, prot, H, r, h => by omega
 | d + 1, e + 1, hd, f, args, prot, H, r, h => by
  simp only [callN] at h ⊢
  exact (callWith_lim (C := C) (c := fun _ => callN C m e) (c' := callN C n d) (l := fun _ => loopN m) (l' := loopN n) (fun f args prot H r h => Evt.of fun _ => callN_mono hn (by omega) h) (loopN_lim n hn) f args prot H r h).get

noncomputable def callInf (C : Cfg) : Cl := fun f args prot H => limit fun n => callN C n n f args prot H

theorem callInf_of {C : Cfg} {n d : Nat} {f : FuncId} {args : List Value} {prot : Nat} {H : AHeap} {r : Value × AHeap} (h : callN C n d f args prot H = some r) : callInf C f args prot H = some r :=
 limit_of (p := fun n => callN C n n f args prot H) (fun _ _ _ hn h => callN_mono hn hn h) (n := max n d) (callN_mono (by omega) (by omega) h)
theorem callInf_some {C : Cfg} {f : FuncId} {args : List Value} {prot : Nat} {H : AHeap} {r : Value × AHeap} (h : callInf C f args prot H = some r) : ∃ n, callN C n n f args prot H = some r := limit_some h

theorem callInf_lim (C : Cfg) : ClLim (fun n => callN C (n + 1) n) (callInf C) := by
 intro f args prot H r h
 obtain ⟨n, hn⟩ := callInf_some h
 exact ⟨n, fun m hm => callN_mono (by omega) hm hn⟩

theorem lpInf_lim1 : LpLim (fun n => loopN (n + 1)) lpInf := by
 intro b b' hb s r h
 obtain ⟨N, hN⟩ := lpInf_lim b b' hb s r h
 exact ⟨N, fun n hn => loopN_le (Nat.le_succ _) (hN n hn)⟩

/-- A function's body is its meaning. -/
theorem callInf_body {C : Cfg} {f : FuncId} {args : List Value} {prot : Nat} {H : AHeap} {r : Value × AHeap} (h : callWith C (callInf C) lpInf f args prot H = some r) : callInf C f args prot H = some r := by
 obtain ⟨N, hN⟩ := callWith_lim (C := C) (callInf_lim C) lpInf_lim1 f args prot H r h
 exact callInf_of (n := N + 1) (d := N + 1) (hN N (Nat.le_refl _))

/-- What the machine answers the program answers. -/
theorem callInf_sound {C : Cfg} (hC : CodeOK C) (hext : ExtSound C.P C.ext) {w0 w : World} {f : FuncId} {args args' : List Value} {prot : Nat} {H H' : AHeap} {v : Value} {μ : PMap} (h : callInf C f args prot H = some (v, H'))
  (hS : Sim C.P w0 μ H w) (ha : LRel μ args args') : Calls C.P f args'.toArray w fun e w' => ∃ v' μ', e = .returned v' ∧ Sub μ μ' ∧ VRel μ' v v' ∧ Sim C.P w0 μ' H' w' := by
 obtain ⟨n, hn⟩ := callInf_some h
 exact (callN_sound hC hext n w0 n).1 f args prot H v H' μ w args' hn hS ha
end Go.Proofs.Ythjkodbinkiifaa.Am
namespace Go.Proofs.Ythjkodbinkiifaa.Am
open Go Go.RowKit

/-! ### Along one path: what must hold for it, as one proposition -/
inductive Hint where
 | e
 | w
 | b (x : Bool)
 | v (x : Value)
 | r (x : Value) (H : AHeap)
 | h (H : AHeap)
 | lo (o : LO)

def Fit (k : IntKind) (n : Int) : Prop := k.wrap n = n

def direct (r : Option (Value × AHeap)) (hs : List Hint) (k : Value → AHeap → List Hint → Prop) : Prop :=
 match r with
 | some x => k x.1 x.2 hs
 | none => False

def pbin (op : BinOp) (k : IntKind) (a : Int) (k' : IntKind) (b : Int) (K : Value → Prop) : Prop :=
 match op with
 | .add => if k = k' then (if k.signed then Fit k (a + b) ∧ K (.int k (a + b)) else K (.int k (k.wrap (a + b)))) else False
 | .sub => if k = k' then (if k.signed then Fit k (a - b) ∧ K (.int k (a - b)) else K (.int k (k.wrap (a - b)))) else False
 | .mul => if k = k' then (if k.signed then Fit k (a * b) ∧ K (.int k (a * b)) else K (.int k (k.wrap (a * b)))) else False
 | .quo => if k = k' then b ≠ 0 ∧ (if k.signed then Fit k (a.tdiv b) ∧ K (.int k (a.tdiv b)) else K (.int k (k.wrap (a.tdiv b)))) else False
 | .rem => if k = k' then b ≠ 0 ∧ K (.int k (a.tmod b)) else False
 | .shl => 0 ≤ b ∧ K (.int k (k.wrap (a * 2 ^ (min b.toNat k.bits))))
 | .shr => 0 ≤ b ∧ K (.int k (a.fdiv (2 ^ (min b.toNat k.bits))))
 | op => match abinInt op k a k' b with
  | some v => K v
  | none => False

def pbound (d : Nat) (x : Option Value) (K : Nat → Prop) : Prop :=
 match x with
 | none => K d
 | some (.int _ n) => 0 ≤ n ∧ K n.toNat
 | some _ => False

def pslice (P : Program) (t : TypeId) (x : Value) (lo hi : Option Value) (H : AHeap) (K : Value → Prop) : Prop :=
 match P.underlying t, x with
 | some .string, .string s => pbound 0 lo fun l => pbound s.size hi fun h => l ≤ h ∧ h ≤ s.size ∧ K (.string (s.extract l h))
 | some (.slice e), .slice (some ⟨id, off, some L⟩) len cap => pbound 0 lo fun l => pbound len hi fun h =>
  match tsize P e with
  | some s => l ≤ h ∧ h ≤ cap ∧ (l < cap ∨ l = 0) ∧ K (.slice (some ⟨id, off + l * s, some L⟩) (h - l) (cap - l))
  | none => False
 | some (.slice e), .slice none 0 0 => pbound 0 lo fun l => pbound 0 hi fun h =>
  match tsize P e with
  | some _ => l = 0 ∧ h = 0 ∧ K (.slice none 0 0)
  | none => False
 | some (.array n e), .pointer (some ⟨id, off, some L⟩) => pbound 0 lo fun l => pbound n hi fun h =>
  match tsize P e with
  | some s => l ≤ h ∧ h ≤ n ∧ (l < n ∨ l = 0) ∧ isVar H id L = true ∧ K (.slice (some ⟨id, off + l * s, some L⟩) (h - l) (n - l))
  | none => False
 | _, _ => False

def pmakeSlice (P : Program) (t : TypeId) (l c : Value) (H : AHeap) (K : Value → AHeap → Prop) : Prop :=
 match l, c with
 | .int _ n, .int _ m =>
  match tslice P t with
  | some e =>
   match tsize P e, tbytes P e, tzero P e with
   | some s, some by_, some z =>
    if (cellsOf z).all plain0 ∧ (cellsOf z).length = s ∧ 0 < s then
     0 ≤ n ∧ n = m ∧ n ≤ 9223372036854775807 ∧ (by_ : Int) * n ≤ 2 ^ 48 ∧ K (sliceTo H (n.toNat * s) n.toNat) (newObj H (repCells (cellsOf z) n.toNat) e)
    else False
   | _, _, _ => False
  | none => False
 | _, _ => False

def popE (S : Sys) (o : Op) (fr : Frame) (H : AHeap) (hs : List Hint) (k : Value → AHeap → List Hint → Prop) : Prop :=
 match o with
 | .binOp op t x y _ =>
  match aeval fr x, aeval fr y with
  | .int i a, .int j b => pbin op i a j b fun v => k v H hs
  | .string a, .string b =>
   match op with
   | .add => a.size + b.size ≤ 9223372036854775807 ∧ k (.string (a ++ b)) H hs
   | op => direct (quiet H (abinStr op a b)) hs k
  | x, y => direct (quiet H (abin S.P op t x y)) hs k
 | .unOp .neg _ x =>
  match aeval fr x with
  | .int i n => if i.signed then Fit i (0 - n) ∧ k (.int i (0 - n)) H hs else k (.int i (i.wrap (0 - n))) H hs
  | _ => False
 | .convert src dst x =>
  match S.P.underlying src, S.P.underlying dst, aeval fr x with
  | some _, some (.int i), .int _ n => if i.signed then Fit i n ∧ k (.int i n) H hs else k (.int i (i.wrap n)) H hs
  | _, _, v => direct (quiet H (aconv S.P src dst v H)) hs k
 | .index t x i =>
  match S.P.underlying t, aeval fr x, aeval fr i with
  | some .string, .string s, .int _ n => 0 ≤ n ∧ n < s.size ∧ k (.int .u8 (s.get! n.toNat).toNat) H hs
  | _, x, i => direct (quiet H (aindex S.P t x i)) hs k
 | .indexAddr t x i =>
  match S.P.underlying t, aeval fr x, aeval fr i with
  | some (.slice e), .slice (some ⟨id, off, some L⟩) len _, .int _ n =>
   match tsize S.P e with
   | some s => 0 ≤ n ∧ n < len ∧ k (.pointer (some ⟨id, off + n.toNat * s, some L⟩)) H hs
   | none => False
  | some (.array len e), .pointer (some ⟨id, off, some L⟩), .int _ n =>
   match tsize S.P e with
   | some s => 0 ≤ n ∧ n < len ∧ k (.pointer (some ⟨id, off + n.toNat * s, some L⟩)) H hs
   | none => False
  | some (.array len e), .pointer (some ⟨g, off, none⟩), .int _ n =>
   match tsize S.P e with
   | some s => 0 ≤ n ∧ n < len ∧ k (.pointer (some ⟨g, off + n.toNat * s, none⟩)) H hs
   | none => False
  | _, _, _ => False
 | .slice t x lo hi none => pslice S.P t (aeval fr x) (lo.map (aeval fr)) (hi.map (aeval fr)) H fun v => k v H hs
 | .makeSlice t l c => pmakeSlice S.P t (aeval fr l) (aeval fr c) H fun v H' => k v H' hs
 | .box e x => (cellsOf (aeval fr x)).all isCell = true ∧ k (ptrTo H (cellsOf (aeval fr x)).length) (newVarObj H (cellsOf (aeval fr x)) e) hs
 | o => direct (aop S o fr H) hs k

def knownAt (P : Program) (g off : Nat) : Option Value := (known P g).bind fun cs => cs[off]?
def loadC (P : Program) (t : TypeId) (p : Value) (H : AHeap) (x : Value) (K : Prop) : Prop :=
 match p with
 | .pointer (some ⟨id, off, some L⟩) =>
  match tagg P t, tsize P t with
  | some true, some n =>
   match x with
   | .agg a => getCells H id L off n = some a.toList ∧ K
   | _ => False
  | some false, some _ => getCells H id L off 1 = some [x] ∧ K
  | _, _ => False
 | .pointer (some ⟨g, off, none⟩) =>
  match tagg P t, tsize P t with
  | some false, some _ => knownAt P g off = some x ∧ K
  | _, _ => False
 | _ => False

def storeC (P : Program) (prot : Nat) (t : TypeId) (p v : Value) (H H' : AHeap) (K : Prop) : Prop :=
 match p with
 | .pointer (some ⟨id, off, some L⟩) =>
  match tsize P t with
  | some n => (cellsOf v).length = n ∧ setCells H prot id L off (cellsOf v) = some H' ∧ K
  | _ => False
 | _ => False

def callC (S : Sys) (f : Value) (args : List Value) (H : AHeap) (x : Value) (H' : AHeap) (K : Prop) : Prop :=
 match f with
 | .func (.func g) first cap =>
  match S.ext g with
  | some _ => acall S f args H = some (x, H') ∧ K
  | none => S.cl g (first.toList ++ (args ++ cap.toList)) S.prot H = some (x, H') ∧ K
 | _ => False

def lenC (S : Sys) (ts : List TypeId) (args : List Value) (H : AHeap) (x : Value) (K : Prop) : Prop :=
 match ts, args with
 | [t], [a] => alen S.P t a H = some x ∧ K
 | _, _ => False
def builtC (S : Sys) (b : Builtin) (ts : List TypeId) (args : List Value) (H : AHeap) (x : Value) (H' : AHeap) (K : Prop) : Prop :=
 match b, ts, args with
 | .append, [t, t'], [a, b] => aappend S.P S.prot S.room t t' a b H = some (x, H') ∧ K
 | .copy, [t, t'], [a, b] => acopy S.P S.prot t t' a b H = some (x, H') ∧ K
 | b, ts, args => abuiltin S b ts args H = some (x, H') ∧ K

def popV (S : Sys) (o : Op) (fr : Frame) (H : AHeap) (x : Value) (K : Prop) : Prop :=
 match o with
 | .load t a => loadC S.P t (aeval fr a) H x K
 | .lookup t m i ok => alookup S.P t (aeval fr m) (aeval fr i) ok H = some x ∧ K
 | .convert a b y => aconv S.P a b (aeval fr y) H = some x ∧ K
 | .index t y i => aindex S.P t (aeval fr y) (aeval fr i) = some x ∧ K
 | .indexAddr t y i => aindexAddr S.P t (aeval fr y) (aeval fr i) = some x ∧ K
 | .field t y f => afield S.P t (aeval fr y) f = some x ∧ K
 | .binOp op t y z _ => abin S.P op t (aeval fr y) (aeval fr z) = some x ∧ K
 | .build t ps => abuild S.P t (ps.toList.map fun p => (p.1, aeval fr p.2)) = some x ∧ K
 | .slice t y lo hi mx => aslice S.P t (aeval fr y) (lo.map (aeval fr)) (hi.map (aeval fr)) (mx.map (aeval fr)) H = some x ∧ K
 | .call { callee := .value f, args := args, argTypes := _ } => match dynOK S f (aeval fr f) with
  | true => callC S (aeval fr f) (args.toList.map (aeval fr)) H x H K
  | false => False
 | .call { callee := .builtin .len, args := args, argTypes := ts } => lenC S ts.toList (args.toList.map (aeval fr)) H x K
 | o => aop S o fr H = some (x, H) ∧ K

def popR (S : Sys) (o : Op) (fr : Frame) (H : AHeap) (x : Value) (H' : AHeap) (K : Prop) : Prop :=
 match o with
 | .call { callee := .value f, args := args, argTypes := _ } => match dynOK S f (aeval fr f) with
  | true => callC S (aeval fr f) (args.toList.map (aeval fr)) H x H' K
  | false => False
 | .call { callee := .builtin b, args := args, argTypes := ts } => builtC S b ts.toList (args.toList.map (aeval fr)) H x H' K
 | .next it true => anext S.prot (aeval fr it) H = some (x, H') ∧ K
 | .alloc e => aalloc S.P e H = some (x, H') ∧ K
 | .box e y => abox e (aeval fr y) H = some (x, H') ∧ K
 | .buildSlice t n ps => abuildSlice S.P t n (ps.toList.map fun p => (p.1, aeval fr p.2)) H = some (x, H') ∧ K
 | o => aop S o fr H = some (x, H') ∧ K

def popH (S : Sys) (o : Op) (fr : Frame) (H H' : AHeap) (K : Prop) : Prop :=
 match o with
 | .store t a x => storeC S.P S.prot t (aeval fr a) (aeval fr x) H H' K
 | .mapUpdate t m k v => amapUpdate S.P S.prot t (aeval fr m) (aeval fr k) (aeval fr v) H = some H' ∧ K
 | .insert t m k v => amapUpdate S.P S.prot t (aeval fr m) (aeval fr k) (aeval fr v) H = some H' ∧ K
 | o => aop S o fr H = some (undef, H') ∧ K

/-- An operation that asks for no hint. -/
def plainOp : Op → Bool
 | .move _ => true
 | .assign _ => true
 | .makeFunc _ _ _ => true
 | .nilCheck _ => true
 | .fieldAddr _ _ _ => true
 | .extract _ _ => true
 | _ => false

def pop (S : Sys) (o : Op) (fr : Frame) (H : AHeap) (hs : List Hint) (k : Value → AHeap → List Hint → Prop) : Prop :=
 if plainOp o then direct (aop S o fr H) hs k
 else
  match hs with
  | .e :: hs => popE S o fr H hs k
  | .w :: hs => direct (aop S o fr H) hs k
  | .v x :: hs => popV S o fr H x (k x H hs)
  | .r x H' :: hs => popR S o fr H x H' (k x H' hs)
  | .h H' :: hs => popH S o fr H H' (k undef H' hs)
  | .b t :: hs =>
   match o with
   | .pick c a b =>
    match aeval fr c with
    | .bool t' => t' = t ∧ k (aeval fr (if t then a else b)) H hs
    | _ => False
   | _ => False
  | _ => False

section
variable {S : Sys} {o : Op} {fr : Frame} {H : AHeap} {hs : List Hint} {k : Value → AHeap → List Hint → Prop}

def Ran (r : Option (Value × AHeap)) (k : Value → AHeap → List Hint → Prop) : Prop := ∃ v H' hs', r = some (v, H') ∧ k v H' hs'

theorem direct_ran {r : Option (Value × AHeap)} (h : direct r hs k) : Ran r k := by
 unfold direct at h
 split at h
 ·rename_i x; exact ⟨x.1, x.2, hs, rfl, h⟩
 ·exact h.elim

theorem Fit.eq {i : IntKind} {n : Int} (h : Fit i n) : i.wrap n = n := h

theorem pbin_ran {op : BinOp} {i j : IntKind} {a b : Int} {K : Value → Prop} (h : pbin op i a j b K) : ∃ v, abinInt op i a j b = some v ∧ K v := by
 have fin : ∀ {x : Option Value}, (match x with | some v => K v | none => False) → ∃ v, x = some v ∧ K v := by
  intro x hx
  cases x with
  | none => exact hx.elim
  | some v => exact ⟨v, rfl, hx⟩
 unfold pbin at h
 split at h
 ·split at h
  ·rename_i he; subst he
   split at h
   ·exact ⟨_, by simp only [abinInt, if_true, h.1.eq], h.2⟩
   ·exact ⟨_, by simp only [abinInt, if_true], h⟩
  ·exact h.elim
 ·split at h
  ·rename_i he; subst he
   split at h
   ·exact ⟨_, by simp only [abinInt, if_true, h.1.eq], h.2⟩
   ·exact ⟨_, by simp only [abinInt, if_true], h⟩
  ·exact h.elim
 ·split at h
  ·rename_i he; subst he
   split at h
   ·exact ⟨_, by simp only [abinInt, if_true, h.1.eq], h.2⟩
   ·exact ⟨_, by simp only [abinInt, if_true], h⟩
  ·exact h.elim
 ·split at h
  ·rename_i he; subst he
   obtain ⟨hb, h⟩ := h
   split at h
   ·exact ⟨_, by simp only [abinInt, true_and, if_pos hb, h.1.eq], h.2⟩
   ·exact ⟨_, by simp only [abinInt, true_and, if_pos hb], h⟩
  ·exact h.elim
 ·split at h
  ·rename_i he; subst he
   exact ⟨_, by simp only [abinInt, true_and, if_pos h.1], h.2⟩
  ·exact h.elim
 ·exact ⟨_, by simp only [abinInt, if_pos h.1], h.2⟩
 ·exact ⟨_, by simp only [abinInt, if_pos h.1], h.2⟩
 ·exact fin h

theorem pbound_ran {d : Nat} {x : Option Value} {K : Nat → Prop} (h : pbound d x K) : ∃ n, boundOf d x = some n ∧ K n := by
 unfold pbound at h
 split at h
 ·exact ⟨d, rfl, h⟩
 ·exact ⟨_, by simp only [boundOf, if_pos h.1], h.2⟩
 ·exact h.elim

theorem pslice_ran {P : Program} {t : TypeId} {x : Value} {lo hi : Option Value} {K : Value → Prop} (h : pslice P t x lo hi H K) : ∃ v, aslice P t x lo hi none H = some v ∧ K v := by
 unfold pslice at h
 unfold aslice
 split at h
 ·rename_i hu
  obtain ⟨l, h1, h⟩ := pbound_ran h
  obtain ⟨u, h2, h⟩ := pbound_ran h
  exact ⟨_, by simp only [hu, h1, h2, Option.bind_some, if_pos (And.intro h.1 h.2.1)], h.2.2⟩
 ·rename_i hu
  obtain ⟨l, h1, h⟩ := pbound_ran h
  obtain ⟨u, h2, h⟩ := pbound_ran h
  split at h
  ·rename_i s hs
   exact ⟨_, by simp only [hu, h1, h2, hs, Option.bind_some, if_pos (And.intro h.1 h.2.1), if_pos h.2.2.1], h.2.2.2⟩
  ·exact h.elim
 ·rename_i hu
  obtain ⟨l, h1, h⟩ := pbound_ran h
  obtain ⟨u, h2, h⟩ := pbound_ran h
  split at h
  ·rename_i s hs
   exact ⟨_, by simp only [hu, h1, h2, hs, Option.bind_some, if_pos (And.intro h.1 h.2.1)], h.2.2⟩
  ·exact h.elim
 ·rename_i hu
  obtain ⟨l, h1, h⟩ := pbound_ran h
  obtain ⟨u, h2, h⟩ := pbound_ran h
  split at h
  ·rename_i s hs
   exact ⟨_, by simp only [hu, h1, h2, hs, Option.bind_some, if_pos (And.intro h.1 (And.intro h.2.1 (And.intro h.2.2.1 h.2.2.2.1)))], h.2.2.2.2⟩
  ·exact h.elim
 ·exact h.elim

theorem pmakeSlice_ran {P : Program} {t : TypeId} {l c : Value} {K : Value → AHeap → Prop} (h : pmakeSlice P t l c H K) : ∃ v H', amakeSlice P t l c H = some (v, H') ∧ K v H' := by
 unfold pmakeSlice at h
 split at h
 ·rename_i i n j m
  split at h
  ·rename_i e he
   split at h
   ·rename_i s b z hs hb hz
    split at h
    ·rename_i hc
     obtain ⟨h1, h2, h3, h4, h5⟩ := h
     exact ⟨_, _, by simp only [amakeSlice, he, hs, hb, hz, Option.bind_some]; rw [if_pos ⟨h1, h2, h3, h4, hc.1, hc.2.1, hc.2.2⟩], h5⟩
    ·exact h.elim
   ·exact h.elim
  ·exact h.elim
 ·exact h.elim

theorem quiet_ran {r : Option Value} {K : Value → Prop} {hs : List Hint} (h : ∃ v, r = some v ∧ K v) (hk : ∀ v, K v → k v H hs) : Ran (quiet H r) k := by
 obtain ⟨v, rfl, h2⟩ := h
 exact ⟨v, H, hs, rfl, hk v h2⟩

theorem popE_ran (h : popE S o fr H hs k) : Ran (aop S o fr H) k := by
 unfold popE at h
 split at h
 ·-- binOp
  rename_i op t x y ty
  split at h
  ·rename_i i a j b hx hy
   have : aop S (.binOp op t x y ty) fr H = quiet H (abinInt op i a j b) := by simp only [aop, abin, hx, hy]
   rw [this]
   exact quiet_ran (pbin_ran h) fun v hv => hv
  ·rename_i a b hx hy
   have : aop S (.binOp op t x y ty) fr H = quiet H (abinStr op a b) := by simp only [aop, abin, hx, hy]
   rw [this]
   split at h
   ·exact ⟨_, _, _, by simp only [abinStr, if_pos h.1]; rfl, h.2⟩
   ·exact direct_ran h
  ·exact direct_ran h
 ·rename_i t x
  split at h
  ·rename_i i n hx
   have : aop S (.unOp .neg t x) fr H = some (.int i (i.wrap (0 - n)), H) := by simp only [aop, aun, hx]; rfl
   rw [this]
   split at h
   ·exact ⟨_, _, hs, by rw [h.1.eq], h.2⟩
   ·exact ⟨_, _, hs, rfl, h⟩
  ·exact h.elim
 ·rename_i src dst x
  split at h
  ·rename_i d i j n hs' hd hx
   have : aop S (.convert src dst x) fr H = some (.int i (i.wrap n), H) := by simp only [aop, aconv, hs', hd, hx]; rfl
   rw [this]
   split at h
   ·exact ⟨_, _, hs, by rw [h.1.eq], h.2⟩
   ·exact ⟨_, _, hs, rfl, h⟩
  ·exact direct_ran h
 ·rename_i t x i
  split at h
  ·rename_i s j n ht hx hi
   have : aop S (.index t x i) fr H = some (.int .u8 (s.get! n.toNat).toNat, H) := by simp only [aop, aindex, ht, hx, hi, if_pos (And.intro h.1 h.2.1)]; rfl
   rw [this]
   exact ⟨_, _, hs, rfl, h.2.2⟩
  ·exact direct_ran h
 ·rename_i t x i
  split at h
  ·rename_i ht hx hi
   split at h
   ·rename_i s hs'
    refine ⟨_, _, hs, ?_, h.2.2⟩
    simp only [aop, aindexAddr, ht, hx, hi, hs', Option.bind_some, if_pos (And.intro h.1 h.2.1)]; rfl
   ·exact h.elim
  ·rename_i ht hx hi
   split at h
   ·rename_i s hs'
    refine ⟨_, _, hs, ?_, h.2.2⟩
    simp only [aop, aindexAddr, ht, hx, hi, hs', Option.bind_some, if_pos (And.intro h.1 h.2.1)]; rfl
   ·exact h.elim
  ·rename_i ht hx hi
   split at h
   ·rename_i s hs'
    refine ⟨_, _, hs, ?_, h.2.2⟩
    simp only [aop, aindexAddr, ht, hx, hi, hs', Option.bind_some, if_pos (And.intro h.1 h.2.1)]; rfl
   ·exact h.elim
  ·exact h.elim
 ·exact quiet_ran (pslice_ran h) fun v hv => hv
 ·obtain ⟨v, H', h1, h2⟩ := pmakeSlice_ran h
  exact ⟨v, H', hs, h1, h2⟩
 ·exact ⟨_, _, hs, by simp only [aop, abox, if_pos h.1], h.2⟩
 ·exact direct_ran h

theorem callC_eq {f : Operand} {args : Array Operand} {ts : Array TypeId} {x : Value} {H' : AHeap} {K : Prop} (h : match dynOK S f (aeval fr f) with
  | true => callC S (aeval fr f) (args.toList.map (aeval fr)) H x H' K
  | false => False) : aop S (.call { callee := .value f, args := args, argTypes := ts }) fr H = some (x, H') ∧ K := by
 split at h
 case h_2 => exact h.elim
 rename_i hdy
 have hop : aop S (.call { callee := .value f, args := args, argTypes := ts }) fr H = acall S (aeval fr f) (args.toList.map (aeval fr)) H := by
  simp only [aop, hdy]
 rw [hop]
 unfold callC at h
 split at h
 ·rename_i hf
  split at h
  ·exact h
  ·rename_i hext
   refine ⟨?_, h.2⟩
   simp only [acall, hf, hext]
   exact h.1
 ·exact h.elim

theorem loadC_eq {P : Program} {t : TypeId} {p x : Value} {K : Prop} (h : loadC P t p H x K) : aload P t p H = some x ∧ K := by
 unfold loadC at h
 split at h
 ·split at h
  ·rename_i hg hz
   split at h
   ·exact ⟨by simp only [aload, hg, hz, h.1, Option.map_some], h.2⟩
   ·exact h.elim
  ·rename_i hg hz
   exact ⟨by simp only [aload, hg, hz, h.1, Option.map_some, List.headD_cons], h.2⟩
  ·exact h.elim
 ·split at h
  ·rename_i hg hz
   exact ⟨by simp only [aload, hg, hz]; exact h.1, h.2⟩
  ·exact h.elim
 ·exact h.elim

theorem popV_eq {x : Value} {K : Prop} (h : popV S o fr H x K) : aop S o fr H = some (x, H) ∧ K := by
 unfold popV at h
 split at h
 ·obtain ⟨h1, h2⟩ := loadC_eq h
  exact ⟨by simp only [aop, h1, quiet, Option.map_some], h2⟩
 ·exact ⟨by simp only [aop, h.1, quiet, Option.map_some], h.2⟩
 ·exact ⟨by simp only [aop, h.1, quiet, Option.map_some], h.2⟩
 ·exact ⟨by simp only [aop, h.1, quiet, Option.map_some], h.2⟩
 ·exact ⟨by simp only [aop, h.1, quiet, Option.map_some], h.2⟩
 ·exact ⟨by simp only [aop, h.1, quiet, Option.map_some], h.2⟩
 ·exact ⟨by simp only [aop, h.1, quiet, Option.map_some], h.2⟩
 ·exact ⟨by simp only [aop, h.1, quiet, Option.map_some], h.2⟩
 ·exact ⟨by simp only [aop, h.1, quiet, Option.map_some], h.2⟩
 ·exact callC_eq h
 ·unfold lenC at h
  split at h
  ·rename_i ht ha
   exact ⟨by simp only [aop, ht, ha, abuiltin, h.1, quiet, Option.map_some], h.2⟩
  ·exact h.elim
 ·exact h

theorem popR_eq {x : Value} {H' : AHeap} {K : Prop} (h : popR S o fr H x H' K) : aop S o fr H = some (x, H') ∧ K := by
 unfold popR at h
 split at h
 ·exact callC_eq h
 ·unfold builtC at h
  split at h
  ·rename_i ht ha
   exact ⟨by simp only [aop, ht, ha, abuiltin]; exact h.1, h.2⟩
  ·rename_i ht ha
   exact ⟨by simp only [aop, ht, ha, abuiltin]; exact h.1, h.2⟩
  ·exact h
 ·exact h
 ·exact h
 ·exact h
 ·exact h
 ·exact h

theorem popH_eq {H' : AHeap} {K : Prop} (h : popH S o fr H H' K) : aop S o fr H = some (undef, H') ∧ K := by
 unfold popH at h
 split at h
 ·unfold storeC at h
  split at h
  ·rename_i hp
   split at h
   ·rename_i hz
    exact ⟨by simp only [aop, astore, hp, hz, if_pos h.1, h.2.1, effect, Option.map_some], h.2.2⟩
   ·exact h.elim
  ·exact h.elim
 ·exact ⟨by simp only [aop, h.1, effect, Option.map_some], h.2⟩
 ·exact ⟨by simp only [aop, h.1, effect, Option.map_some], h.2⟩
 ·exact h

theorem pop_ran (h : pop S o fr H hs k) : Ran (aop S o fr H) k := by
 unfold pop at h
 split at h
 ·exact direct_ran h
 ·split at h
  ·exact popE_ran h
  ·exact direct_ran h
  ·exact ⟨_, _, _, (popV_eq h).1, (popV_eq h).2⟩
  ·exact ⟨_, _, _, (popR_eq h).1, (popR_eq h).2⟩
  ·exact ⟨_, _, _, (popH_eq h).1, (popH_eq h).2⟩
  ·split at h
   ·split at h
    ·rename_i c a b t' hc
     obtain ⟨rfl, h⟩ := h
     refine ⟨_, _, _, ?_, h⟩
     simp only [aop, hc]
     cases t' <;> rfl
    ·exact h.elim
   ·exact h.elim
  ·exact h.elim
end

/-! ### Regions -/
/-- What one operation that makes an object makes. -/
def makeOf (S : Sys) (o : Op) (fr : Frame) : Option (AObj × Value) :=
 match aop S o fr [] with
 | some (v, [obj]) => some (obj, v)
 | _ => none

/-- What one operation that makes nothing gives. -/
def makeNot (S : Sys) (o : Op) (fr : Frame) : Option Value :=
 match aop S o fr [] with
 | some (v, []) => some v
 | _ => none

/-- A result is put to its place. -/
def placeA (hid : Nat) (H : AHeap) (r : Option (Value × AHeap)) : Option (Value × AHeap) :=
 r.bind fun r =>
  match r.2[H.length]?, H[hid]? with
  | some obj, some .hole => some (renTop H.length hid r.1, H.set hid obj)
  | none, _ => some r
  | _, _ => none
def nothing : Value → Bool
 | .slice none 0 0 => true
 | .slice (some ⟨0, 0, none⟩) 0 0 => true
 | _ => false
def placeN (x : Value) (hid : Nat) (H : AHeap) (r : Option (Value × AHeap)) : Option (Value × AHeap) := if nothing x then placeA hid H r else none
/-- What is asked where the result is told. -/
def askA (S : Sys) (hid : Nat) (o : Op) (fr : Frame) (H : AHeap) (r : Value × AHeap) : Prop :=
 match o with
 | .makeSlice t l c => placeA hid H (amakeSlice S.P t (aeval fr l) (aeval fr c) H) = some r
 | .call { callee := .builtin .append, args := args, argTypes := ts } =>
  match ts.toList, args.toList.map (aeval fr) with
  | [t, t'], [x, y] => placeN x hid H (aappend S.P S.prot S.room t t' x y H) = some r
  | _, _ => False
 | _ => aopA S hid o fr H = some r

def popA (S : Sys) (hid : Nat) (o : Op) (fr : Frame) (H : AHeap) (hs : List Hint) (k : Value → AHeap → List Hint → Prop) : Prop :=
 match hs with
 | .e :: hs =>
  if isA (opKd S true o) && !isAppend o then
   match makeOf S o fr with
   | some (obj, v) => H[hid]? = some .hole ∧ k (renTop 0 hid v) (H.set hid obj) hs
   | none =>
    match makeNot S o fr with
    | some v => k v H hs
    | none => False
  else False
 | .r x H' :: hs => askA S hid o fr H (x, H') ∧ k x H' hs
 | _ => False

theorem askA_some {S : Sys} {hid : Nat} {o : Op} {fr : Frame} {H : AHeap} {r : Value × AHeap} (h : askA S hid o fr H r) : aopA S hid o fr H = some r := by
 unfold askA at h
 split at h
 ·unfold aopA
  rw [if_pos (freshBase_other rfl _)]
  exact h
 ·rename_i args ts
  split at h
  ·rename_i t t' x y hts hxy
   unfold placeN at h
   split at h
   case isFalse => cases h
   rename_i h1
   have h2 := h
   unfold aopA
   have hf : freshBase fr (.call { callee := .builtin .append, args := args, argTypes := ts }) = true := by
    simp only [freshBase]
    rw [hxy]
    unfold nothing at h1
    split at h1
    ·rfl
    ·rfl
    ·cases h1
   rw [if_pos hf]
   have ha : aop S (.call { callee := .builtin .append, args := args, argTypes := ts }) fr H = aappend S.P S.prot S.room t t' x y H := by
    simp only [aop]
    rw [hts, hxy]
    rfl
   rw [ha]
   exact h2
  ·exact h.elim
 ·exact h

theorem popA_ran {S : Sys} {hid : Nat} {o : Op} {fr : Frame} {H : AHeap} {hs : List Hint} {k : Value → AHeap → List Hint → Prop} (h : popA S hid o fr H hs k) : Ran (aopA S hid o fr H) k := by
 unfold popA at h
 split at h
 ·rename_i hs'
  split at h
  ·rename_i hkd
   simp only [Bool.and_eq_true, Bool.not_eq_true'] at hkd
   obtain ⟨hkd, hna⟩ := hkd
   have hk : opKd S true o = .a := by cases hc : opKd S true o <;> rw [hc] at hkd <;> first | rfl | cases hkd
   split at h
   ·rename_i obj v hm
    unfold makeOf at hm
    split at hm
    ·rename_i v1 obj1 ho
     cases hm
     refine ⟨_, _, hs', ?_, h.2⟩
     rcases aop_a hk hna ho with ⟨hn, _⟩ | ⟨ob, mk, h1, h2, h3, h4⟩
     ·cases hn
     ·simp only [List.nil_append, List.cons.injEq, and_true] at h1
      subst h1
      unfold aopA
      rw [if_pos (freshBase_other hna _), h4 H, Option.bind_some]
      dsimp only
      rw [append_get.1, h.1]
      simp only [h3, h2, List.length_nil]
    ·cases hm
   ·split at h
    ·rename_i v hm
     unfold makeNot at hm
     split at hm
     ·rename_i v1 ho
      cases hm
      refine ⟨_, _, hs', ?_, h⟩
      rcases aop_a hk hna ho with ⟨_, h4⟩ | ⟨ob, mk, h1, h2, h3, h4⟩
      ·unfold aopA
       rw [if_pos (freshBase_other hna _), h4 H, Option.bind_some]
       dsimp only
       rw [List.getElem?_eq_none (Nat.le_refl _)]
      ·simp at h1
     ·cases hm
    ·exact h.elim
  ·exact h.elim
 ·exact ⟨_, _, _, askA_some h.1, h.2⟩
 ·exact h.elim

abbrev PopFn := Op → Frame → AHeap → List Hint → (Value → AHeap → List Hint → Prop) → Prop

def pstep (p : PopFn) (nt : Nat) (ops : Array Oper) (o : Oper) (fr : Frame) (H : AHeap) (hs : List Hint) (k : Frame → AHeap → List Hint → Prop) : Prop :=
 match o.guard with
 | none => p o.op fr H hs fun v H hs => k (put nt fr o.dst v) H hs
 | some (j, want) =>
  match guardVal ops fr j with
  | .bool b =>
   match hs with
   | .b t :: hs => b = t ∧ (if t == want then p o.op fr H hs fun v H hs => k (put nt fr o.dst v) H hs else k (put nt fr o.dst skipV) H hs)
   | _ => False
  | .tuple vs => if vs.toList.length = 1 then k (put nt fr o.dst skipV) H hs else False
  | _ => False

def Went (r : Option (Frame × AHeap)) (k : Frame → AHeap → List Hint → Prop) : Prop := ∃ fr' H' hs', r = some (fr', H') ∧ k fr' H' hs'

theorem pstep_went {p : PopFn} {f : Op → Frame → AHeap → Option (Value × AHeap)} (hp : ∀ o fr H hs k, p o fr H hs k → Ran (f o fr H) k) {nt : Nat} {ops : Array Oper} {o : Oper} {fr : Frame} {H : AHeap} {hs : List Hint} {k : Frame → AHeap → List Hint → Prop}
  (h : pstep p nt ops o fr H hs k) : Went (stepWith f nt ops o fr H ret2) k := by
 unfold pstep at h
 unfold stepWith
 split at h
 ·obtain ⟨v, H', hs', h1, h2⟩ := hp _ _ _ _ _ h
  rename_i hg
  exact ⟨_, _, hs', by simp only [hg, h1, Option.bind_some, ret2], h2⟩
 ·rename_i j want hg
  simp only [hg]
  split at h
  ·rename_i b hb
   split at h
   ·rename_i t hs0
    obtain ⟨rfl, h⟩ := h
    simp only [onGuard, hb]
    split at h
    ·rename_i he
     obtain ⟨v, H', hs', h1, h2⟩ := hp _ _ _ _ _ h
     exact ⟨_, _, hs', by simp only [he, if_true, h1, Option.bind_some, ret2], h2⟩
    ·rename_i he
     exact ⟨_, _, hs0, by simp only [he, Option.bind_some, ret2]; rfl, h⟩
   ·exact h.elim
  ·rename_i vs hb
   split at h
   ·rename_i hl
    simp only [onGuard, hb, if_pos hl]
    exact ⟨_, _, hs, rfl, h⟩
   ·exact h.elim
  ·exact h.elim

def pops (S : Sys) (ops : Array Oper) : List Oper → Frame → AHeap → List Hint → (Frame → AHeap → List Hint → Prop) → Prop
 | [], fr, H, hs, k => k fr H hs
 | o :: os, fr, H, hs, k => pstep (pop S) S.nt ops o fr H hs fun fr H hs => pops S ops os fr H hs k

theorem pops_went {S : Sys} {ops : Array Oper} : ∀ (os : List Oper) {fr : Frame} {H : AHeap} {hs : List Hint} {k : Frame → AHeap → List Hint → Prop}, pops S ops os fr H hs k → Went (runOps S ops os fr H ret2) k
 | [], fr, H, hs, k, h => ⟨fr, H, hs, rfl, h⟩
 | o :: os, fr, H, hs, k, h => by
  obtain ⟨fr1, H1, hs1, h1, h2⟩ := pstep_went (fun _ _ _ _ _ h => pop_ran h) h
  obtain ⟨fr2, H2, hs2, h3, h4⟩ := pops_went os h2
  refine ⟨fr2, H2, hs2, ?_, h4⟩
  simp only [runOps]
  rw [stepOp_bind]
  unfold stepOp
  rw [h1]
  exact h3

def popI (S : Sys) (rsv : Bool) (ops : Array Oper) (base i : Nat) : PopFn :=
 if rsv && isA (kdAt S true ops i) then popA S (base + rankA S ops i) else pop S

def pidx (S : Sys) (rsv : Bool) (ops : Array Oper) (base : Nat) : List Nat → Frame → AHeap → List Hint → (Frame → AHeap → List Hint → Prop) → Prop
 | [], fr, H, hs, k => k fr H hs
 | i :: l, fr, H, hs, k =>
  match ops[i]? with
  | some o => pstep (popI S rsv ops base i) S.nt ops o fr H hs fun fr H hs => pidx S rsv ops base l fr H hs k
  | none => False

theorem pidx_went {S : Sys} {rsv : Bool} {ops : Array Oper} {base : Nat} : ∀ (l : List Nat) {fr : Frame} {H : AHeap} {hs : List Hint} {k : Frame → AHeap → List Hint → Prop}, pidx S rsv ops base l fr H hs k → Went (runI S rsv ops base l fr H ret2) k
 | [], fr, H, hs, k, h => ⟨fr, H, hs, rfl, h⟩
 | i :: l, fr, H, hs, k, h => by
  simp only [pidx] at h
  split at h
  ·rename_i o ho
   have hp : ∀ op fr H hs k, popI S rsv ops base i op fr H hs k → Ran (runnerI S rsv ops base i op fr H) k := by
    intro op fr H hs k hh
    unfold popI at hh
    unfold runnerI
    split at hh
    ·rename_i hc
     rw [if_pos hc]; exact popA_ran hh
    ·rename_i hc
     rw [if_neg hc]; exact pop_ran hh
   obtain ⟨fr1, H1, hs1, h1, h2⟩ := pstep_went hp h
   obtain ⟨fr2, H2, hs2, h3, h4⟩ := pidx_went l h2
   refine ⟨fr2, H2, hs2, ?_, h4⟩
   simp only [runI]
   rw [stepI_bind]
   unfold stepI
   rw [ho]
   simp only
   rw [h1]
   exact h3
  ·exact h.elim

/-- What is read and what is written are two. -/
def farP : List (Tmp × Tmp) → Frame → Prop → Prop
 | [], _, K => K
 | (a, b) :: l, fr, K =>
  match fr a, fr b with
  | .pointer (some ⟨x, _, some _⟩), .pointer (some ⟨y, _, some _⟩) => x ≠ y ∧ farP l fr K
  | _, _ => False
theorem farP_eq : ∀ {l : List (Tmp × Tmp)} {fr : Frame} {K : Prop}, farP l fr K → farS l fr = true ∧ K
 | [], _, _, h => ⟨rfl, h⟩
 | (a, b) :: l, fr, K, h => by
  rw [farP] at h
  split at h
  ·rename_i x _ _ y _ _ ha hb
   obtain ⟨h1, h2⟩ := farP_eq h.2
   refine ⟨?_, h2⟩
   unfold farS at h1 ⊢
   rw [List.all_cons, h1, ha, hb]
   simp [ptrNe, h.1]
  ·exact h.elim
def pdraw (S : Sys) (ops : Array Oper) (fr : Frame) (H : AHeap) (hs : List Hint) (k : Frame → AHeap → List Hint → Prop) : Prop :=
 if orderOk S false ops (List.range ops.size) then pidx S false ops 0 (List.range ops.size) fr H hs k
 else if orderOk (drawn S) false ops (List.range ops.size) then pidx (drawn S) false ops 0 (List.range ops.size) fr H hs k
 else if orderOk (drawn S) true ops (canon (drawn S) ops) then pidx (drawn S) true ops H.length (canon (drawn S) ops) fr (H ++ holes (rankA (drawn S) ops ops.size)) hs k
 else if orderOkS (drawn S) ops then pidx (drawn S) false ops 0 (List.range ops.size) fr H hs fun fr H hs => farP (sList ops) fr (k fr H hs)
 else False

theorem pdraw_went {S : Sys} {ops : Array Oper} {fr : Frame} {H : AHeap} {hs : List Hint} {k : Frame → AHeap → List Hint → Prop} (h : pdraw S ops fr H hs k) : Went (drawRun S ops fr H ret2) k := by
 unfold pdraw at h
 unfold drawRun
 split at h
 ·rename_i hc
  rw [if_pos hc]
  exact pidx_went _ h
 ·rename_i hc
  rw [if_neg hc]
  split at h
  ·rename_i hc1
   rw [if_pos hc1]
   exact pidx_went _ h
  rename_i hc1
  rw [if_neg hc1]
  split at h
  ·rename_i hc2
   rw [if_pos hc2]
   exact pidx_went _ h
  rename_i hc2
  rw [if_neg hc2]
  split at h
  ·rename_i hc3
   rw [if_pos hc3]
   obtain ⟨fr1, H1, hs1, h1, h2⟩ := pidx_went _ h
   obtain ⟨h3, h4⟩ := farP_eq h2
   exact ⟨fr1, H1, hs1, drawFar_mk h1 h3, h4⟩
  ·exact h.elim

/-! ### Code -/
def loopFn (S : Sys) (b : ACode) (lv lo : List Nat) : LS → Option (LS ⊕ LO) := fun s => exec S b (LS ⊕ LO) (slotsOf lv s.1) s.2 fun e fr' H' =>
 match e with
 | .normal => some (.inl (pack lv fr', H'))
 | .exit n => some (.inr (.exit n, pack lo fr', H'))
 | .ret => some (.inr (.ret, pack lo fr', H'))

def pw (S : Sys) : ACode → Frame → AHeap → List Hint → (Ex → Frame → AHeap → List Hint → Prop) → Prop
 | .skip, fr, H, hs, k => k .normal fr H hs
 | .region _ ops draw, fr, H, hs, k => if draw then pdraw S ops fr H hs fun fr H hs => k .normal fr H hs else pops S ops ops.toList fr H hs fun fr H hs => k .normal fr H hs
 | .seq a b, fr, H, hs, k => pw S a fr H hs fun e fr H hs =>
   match e with
   | .normal => pw S b fr H hs k
   | .exit n => k (.exit n) fr H hs
   | .ret => k .ret fr H hs
 | .cond c a b lv, fr, H, hs, k =>
   match aeval fr c with
   | .bool x =>
    match hs with
    | .b t :: hs => x = t ∧ (if t then pw S a fr H hs fun e fr' H hs => k e (slotsOf lv (pack lv fr')) H hs else pw S b fr H hs fun e fr' H hs => k e (slotsOf lv (pack lv fr')) H hs)
    | _ => False
   | _ => False
 | .block id b lv, fr, H, hs, k => pw S b fr H hs fun e fr' H hs => k (inBlock id e) (slotsOf lv (pack lv fr')) H hs
 | .loop b lv lo, fr, H, hs, k =>
   match hs with
   | .lo o :: hs => S.lp (loopFn S b lv lo) (pack lv fr, H) = some o ∧ k o.1 (slotsOf lo o.2.1) o.2.2 hs
   | _ => False
 | .exit n, fr, H, hs, k => k (.exit n) fr H hs
 | .scope b, fr, H, hs, k => pw S b fr H hs k
 | .label _, fr, H, hs, k => k .normal fr H hs
 | .ret, fr, H, hs, k => k .ret fr H hs
 | .other _, _, _, _, _ => False

def Came (r : Option R3) (k : Ex → Frame → AHeap → List Hint → Prop) : Prop := ∃ e fr' H' hs', r = some (e, fr', H') ∧ k e fr' H' hs'

theorem pw_came {S : Sys} : ∀ (c : ACode) {fr : Frame} {H : AHeap} {hs : List Hint} {k : Ex → Frame → AHeap → List Hint → Prop}, pw S c fr H hs k → Came (exec S c R3 fr H ret3) k := by
 intro c
 induction c with
 | skip => intro fr H hs k h; exact ⟨_, _, _, _, rfl, h⟩
 | region id ops draw =>
  intro fr H hs k h
  simp only [pw] at h
  simp only [exec]
  cases draw with
  | true =>
   simp only [if_true] at h ⊢
   obtain ⟨fr1, H1, hs1, h1, h2⟩ := pdraw_went h
   rw [drawRun_bind, h1]
   exact ⟨_, _, _, hs1, rfl, h2⟩
  | false =>
   simp only [Bool.false_eq_true, if_false] at h ⊢
   obtain ⟨fr1, H1, hs1, h1, h2⟩ := pops_went _ h
   rw [runOps_bind, h1]
   exact ⟨_, _, _, hs1, rfl, h2⟩
 | seq a b iha ihb =>
  intro fr H hs k h
  simp only [pw] at h
  simp only [exec]
  obtain ⟨e, fr1, H1, hs1, h1, h2⟩ := iha h
  rw [exec_bind, h1, Option.bind_some]
  cases e with
  | normal => exact ihb h2
  | exit n => exact ⟨_, _, _, hs1, rfl, h2⟩
  | ret => exact ⟨_, _, _, hs1, rfl, h2⟩
 | cond c a b lv iha ihb =>
  intro fr H hs k h
  simp only [pw] at h
  simp only [exec]
  split at h
  ·rename_i x hx
   split at h
   ·rename_i t hs0
    obtain ⟨rfl, h⟩ := h
    simp only [onBool, hx]
    cases x with
    | true =>
     simp only [if_true] at h ⊢
     obtain ⟨e, fr1, H1, hs1, h1, h2⟩ := iha h
     rw [exec_bind, h1]
     exact ⟨_, _, _, hs1, rfl, h2⟩
    | false =>
     simp only [Bool.false_eq_true, if_false] at h ⊢
     obtain ⟨e, fr1, H1, hs1, h1, h2⟩ := ihb h
     rw [exec_bind, h1]
     exact ⟨_, _, _, hs1, rfl, h2⟩
   ·exact h.elim
  ·exact h.elim
 | block id b lv ih =>
  intro fr H hs k h
  simp only [pw] at h
  simp only [exec]
  obtain ⟨e, fr1, H1, hs1, h1, h2⟩ := ih h
  rw [exec_bind, h1]
  exact ⟨_, _, _, hs1, rfl, h2⟩
 | loop b lv lo ih =>
  intro fr H hs k h
  simp only [pw] at h
  simp only [exec]
  split at h
  ·rename_i o hs0
   exact ⟨_, _, _, hs0, (congrArg (fun x => Option.bind x _) h.1).trans rfl, h.2⟩
  ·exact h.elim
 | exit n => intro fr H hs k h; exact ⟨_, _, _, _, rfl, h⟩
 | scope b ih => intro fr H hs k h; exact ih h
 | label l => intro fr H hs k h; exact ⟨_, _, _, _, rfl, h⟩
 | ret => intro fr H hs k h; exact ⟨_, _, _, _, rfl, h⟩
 | other c => intro fr H hs k h; exact h.elim

/-- One round of a loop. -/
def ploop (S : Sys) (b : ACode) (lv lo : List Nat) (s : LS) (hs : List Hint) (r : LS ⊕ LO) : Prop :=
 pw S b (slotsOf lv s.1) s.2 hs fun e fr' H' _ => (match e with
  | .normal => Sum.inl (pack lv fr', H')
  | .exit n => .inr (.exit n, pack lo fr', H')
  | .ret => .inr (.ret, pack lo fr', H')) = r

theorem loop_of {S : Sys} {b : ACode} {lv lo : List Nat} {s : LS} (hs : List Hint) {r : LS ⊕ LO} (h : ploop S b lv lo s hs r) : loopFn S b lv lo s = some r := by
 obtain ⟨e, fr1, H1, hs1, h1, h2⟩ := pw_came b h
 unfold loopFn
 rw [exec_bind, h1, Option.bind_some]
 cases e <;> exact congrArg some h2

/-! ### Functions -/
noncomputable def sysOf (C : Cfg) (fn : AFunc) (prot : Nat) (H : AHeap) : Sys := { P := C.P, ext := C.ext, cl := callInf C, lp := lpInf, nt := fn.nt, prot := if fn.muts then prot else H.length, mt := mtOf C, room := true }

def pres (P : Program) (fr : Frame) (H : AHeap) : List ResultVar → List Hint → (List Value → Prop) → Prop
 | [], _, k => k []
 | .tmp t :: rs, hs, k => pres P fr H rs hs fun vs => k (fr t :: vs)
 | .cell a t :: rs, hs, k =>
  match hs with
  | .v x :: hs => loadC P t (fr a) H x (pres P fr H rs hs fun vs => k (x :: vs))
  | _ => False

theorem pres_some {P : Program} {fr : Frame} {H : AHeap} : ∀ (rs : List ResultVar) {hs : List Hint} {k : List Value → Prop}, pres P fr H rs hs k → ∃ vs, aresults P fr H rs = some vs ∧ k vs
 | [], hs, k, h => ⟨[], rfl, h⟩
 | .tmp t :: rs, hs, k, h => by
  obtain ⟨vs, h1, h2⟩ := pres_some rs h
  exact ⟨_, by simp only [aresults, aresult, Option.bind_some, h1, Option.map_some], h2⟩
 | .cell a t :: rs, hs, k, h => by
  simp only [pres] at h
  split at h
  ·rename_i x hs0
   obtain ⟨this, h0⟩ := loadC_eq h
   obtain ⟨vs, h1, h2⟩ := pres_some rs h0
   exact ⟨_, by simp only [aresults, aresult, this, Option.bind_some, h1, Option.map_some], h2⟩
  ·exact h.elim

/-- What a function leaves. -/
def pfin (fn : AFunc) (H : AHeap) (vs : List Value) (H1 : AHeap) : Value × AHeap :=
 if fn.muts then (tupled vs, H1) else if vs.all plain0 then (tupled vs, H) else gc H vs H1

theorem keep1_plain {m : Nat} {H : AHeap} {v : Value} {acc : List AObj} (h : plain1 v = true) : keep1 m H v acc = some (v, acc) := by
 unfold keep1
 split
 ·simp [plain1, plain0] at h
 ·rfl
 ·rw [if_pos h]
theorem keepAll_plain {m : Nat} {H : AHeap} : ∀ (vs : List Value) (acc : List AObj), vs.all plain1 = true → keepAll m H vs acc = some (vs, acc)
 | [], acc, _ => rfl
 | v :: vs, acc, h => by
  simp only [List.all_cons, Bool.and_eq_true] at h
  simp only [keepAll, keep1_plain h.1, Option.bind_some, keepAll_plain vs acc h.2, Option.map_some]
theorem sliceIds_plain : ∀ (vs : List Value), vs.all plain1 = true → sliceIds vs = []
 | [], _ => rfl
 | v :: vs, h => by
  simp only [List.all_cons, Bool.and_eq_true] at h
  unfold sliceIds
  split
  ·rfl
  ·rename_i heq; cases heq; simp [plain1, plain0] at h
  ·rename_i heq; cases heq; exact sliceIds_plain vs h.2
theorem gc_plain {H H1 : AHeap} {vs : List Value} (h : vs.all plain1 = true) : gc H vs H1 = (tupled vs, H) := by
 unfold gc
 rw [sliceIds_plain vs h, keepAll_plain vs [] h]
 rfl
theorem plain1_of0 {v : Value} (h : plain0 v = true) : plain1 v = true := by
 unfold plain1
 split
 ·simp [plain0] at h
 ·exact h
theorem pfin_eq (fn : AFunc) (H : AHeap) (vs : List Value) (H1 : AHeap) : pfin fn H vs H1 = if fn.muts then (tupled vs, H1) else gc H vs H1 := by
 unfold pfin
 split
 ·rfl
 ·split
  ·rename_i h
   rw [gc_plain]
   rw [List.all_eq_true] at h ⊢
   exact fun v hv => plain1_of0 (h v hv)
  ·rfl

def pcall (C : Cfg) (fn : AFunc) (args : List Value) (prot : Nat) (H : AHeap) (hs : List Hint) (v : Value) (H' : AHeap) : Prop :=
 if args.length ≤ fn.nt then
  pw (sysOf C fn prot H) fn.body (fun t => args.getD t undef) H hs fun e fr H1 hs =>
   match e with
   | .exit _ => False
   | _ => pres C.P fr H1 fn.results hs fun vs => pfin fn H vs H1 = (v, H')
 else False

theorem call_of {C : Cfg} {f : FuncId} {fn : AFunc} (hf : C.code f = some fn) (hm : fn.memo = none) {args : List Value} {prot : Nat} {H : AHeap} (hs : List Hint) {v : Value} {H' : AHeap} (h : pcall C fn args prot H hs v H') : callInf C f args prot H = some (v, H') := by
 refine callInf_body ?_
 unfold pcall at h
 unfold callWith
 rw [hf]
 simp only
 rw [hm]
 simp only
 unfold callBody
 split at h
 ·rename_i hl
  rw [if_pos hl]
  obtain ⟨e, fr1, H1, hs1, h1, h2⟩ := pw_came _ h
  rw [exec_bind]
  unfold sysOf at h1
  rw [h1, Option.bind_some]
  have fin : pres C.P fr1 H1 fn.results hs1 (fun vs => pfin fn H vs H1 = (v, H')) →
    ((aresults C.P fr1 H1 fn.results).map fun vs => (vs, H1)).map (fun r => if fn.muts then (tupled r.1, r.2) else gc H r.1 r.2) = some (v, H') := fun hp => by
   obtain ⟨vs, h3, h4⟩ := pres_some _ hp
   rw [h3]
   rw [pfin_eq] at h4
   exact congrArg some h4
  cases e with
  | normal => exact fin h2
  | exit n => exact h2.elim
  | ret => exact fin h2
 ·exact h.elim
end Go.Proofs.Ythjkodbinkiifaa.Am
namespace Go.Proofs.Ythjkodbinkiifaa.Am
open Go
/-- The loops of a text, from the first to the last. -/
def loopsOf : ACode → List (ACode × List Nat × List Nat)
 | .seq a b => loopsOf a ++ loopsOf b
 | .cond _ a b _ => loopsOf a ++ loopsOf b
 | .block _ b _ => loopsOf b
 | .loop b lv lo => (b, lv, lo) :: loopsOf b
 | .scope b => loopsOf b
 | _ => []
def loopAt (fn : AFunc) (i : Nat) : ACode × List Nat × List Nat := (loopsOf fn.body).getD i (.skip, [], [])
noncomputable def lpOf (C : Cfg) (fn : AFunc) (i prot : Nat) (H : AHeap) : LS → Option (LS ⊕ LO) := loopFn (sysOf C fn prot H) (loopAt fn i).1 (loopAt fn i).2.1 (loopAt fn i).2.2
noncomputable def plp (C : Cfg) (fn : AFunc) (i prot : Nat) (H0 : AHeap) (s : LS) (hs : List Hint) (r : LS ⊕ LO) : Prop := ploop (sysOf C fn prot H0) (loopAt fn i).1 (loopAt fn i).2.1 (loopAt fn i).2.2 s hs r
end Go.Proofs.Ythjkodbinkiifaa.Am
