/- A part of the proof of a given statement: Sp23_Ord, P23_67, P23_59, Sp23_C67, P23_42, P23_19, P23_20, Sp23_C42, Sp23_C20, AmKey, AmStrc, P23_5, Law23_5, P23_22, P23_6, Law23_6, Sp23_W0, P23_45, P23_46, Sp23_C45, P23_47, Sp23_C47, P23_48, Sp23_C48, P23_49, Sp23_C49, Sp23_W1, Sp23_W2, P23_23, Sp23_C23, P23_24, Sp23_C24, P23_7, P23_25, Law23_7, Sp23_W3, Sp23_Deg, Sp23_C31b, P23_10, Law23_10. No condition. -/
import Derived.Test.YthjkodbinkiifaaPart13
import Derived.Lib.Bytealg
import Derived.Laws.Strings
namespace Go.Proofs.Ythjkodbinkiifaa.Am23
open Go Go.Proofs.Ythjkodbinkiifaa.Am

end Go.Proofs.Ythjkodbinkiifaa.Am23
set_option linter.unusedVariables false
open Go Go.Proofs.Ythjkodbinkiifaa.Am
namespace Go.Proofs.Ythjkodbinkiifaa.Am23
end Go.Proofs.Ythjkodbinkiifaa.Am23
set_option linter.unusedVariables false
open Go Go.Proofs.Ythjkodbinkiifaa.Am
namespace Go.Proofs.Ythjkodbinkiifaa.Am23
end Go.Proofs.Ythjkodbinkiifaa.Am23
namespace Go.Proofs.Ythjkodbinkiifaa.Am23
open Go Go.Proofs.Ythjkodbinkiifaa.Am

end Go.Proofs.Ythjkodbinkiifaa.Am23
set_option linter.unusedVariables false
open Go Go.Proofs.Ythjkodbinkiifaa.Am
namespace Go.Proofs.Ythjkodbinkiifaa.Am23
end Go.Proofs.Ythjkodbinkiifaa.Am23
set_option linter.unusedVariables false
open Go Go.Proofs.Ythjkodbinkiifaa.Am
namespace Go.Proofs.Ythjkodbinkiifaa.Am23
end Go.Proofs.Ythjkodbinkiifaa.Am23
set_option linter.unusedVariables false
open Go Go.Proofs.Ythjkodbinkiifaa.Am
namespace Go.Proofs.Ythjkodbinkiifaa.Am23
end Go.Proofs.Ythjkodbinkiifaa.Am23
namespace Go.Proofs.Ythjkodbinkiifaa.Am23
open Go Go.Proofs.Ythjkodbinkiifaa.Am

end Go.Proofs.Ythjkodbinkiifaa.Am23
namespace Go.Proofs.Ythjkodbinkiifaa.Am23
open Go Go.Proofs.Ythjkodbinkiifaa.Am

end Go.Proofs.Ythjkodbinkiifaa.Am23
namespace Go.Proofs.Ythjkodbinkiifaa.Am
open Go

/-! ### Arrays of whole numbers as keys -/
end Go.Proofs.Ythjkodbinkiifaa.Am
namespace Go.Proofs.Ythjkodbinkiifaa.Am
open Go

end Go.Proofs.Ythjkodbinkiifaa.Am
set_option linter.unusedVariables false
open Go Go.Proofs.Ythjkodbinkiifaa.Am
namespace Go.Proofs.Ythjkodbinkiifaa.Am23
end Go.Proofs.Ythjkodbinkiifaa.Am23
namespace Go.Proofs.Ythjkodbinkiifaa.Am23
open Go Go.Proofs.Ythjkodbinkiifaa.Am

theorem pump_new {H : AHeap} {prot : Nat} (hp : prot ≤ H.length) (v : ByteArray × ByteArray × ByteArray) :
  ∃ H', setCells (H ++ [AObj.cells [.string ByteArray.empty, .string ByteArray.empty, .string ByteArray.empty] 29 3 .var]) prot H.length 3 0 [.string v.1, .string v.2.1, .string v.2.2] = some H' ∧ H'[H.length]? = some (.cells [.string v.1, .string v.2.1, .string v.2.2] 29 3 .var) ∧ Stay none H H' := by
 obtain ⟨H', u1, u2, u3, u4⟩ := set3s (append_get.1 : (H ++ [AObj.cells [.string ByteArray.empty, .string ByteArray.empty, .string ByteArray.empty] 29 3 .var])[H.length]? = _) hp (x := .string v.1) (y := .string v.2.1) (z := .string v.2.2) rfl
 exact ⟨H', u1, u4, (Stay.app none H _).over u3 (fun id h => by have := Option.some.inj h; omega)⟩

end Go.Proofs.Ythjkodbinkiifaa.Am23
set_option linter.unusedVariables false
open Go Go.Proofs.Ythjkodbinkiifaa.Am
namespace Go.Proofs.Ythjkodbinkiifaa.Am23
end Go.Proofs.Ythjkodbinkiifaa.Am23
set_option linter.unusedVariables false
open Go Go.Proofs.Ythjkodbinkiifaa.Am
namespace Go.Proofs.Ythjkodbinkiifaa.Am23
end Go.Proofs.Ythjkodbinkiifaa.Am23
namespace Go.Proofs.Ythjkodbinkiifaa.Am23
open Go Go.Proofs.Ythjkodbinkiifaa.Am

/-- A language and what it leaves are not both finite. -/
theorem not_both {k : Nat} {xs : List Int} {bs : List Bool} (hG : Good k xs bs) (h1 : (boundV k xs bs).1 = true) (h2 : (boundV k xs (bs.map (!·))).1 = true) : False := by
 have hb1 := hG.n1
 have hk1 := hG.k1
 have g1 := (finite_iff hG).1 h1 bs.length (Nat.le_refl _) (by omega)
 have g2 := (finite_iff hG.not).1 h2 bs.length (by simp) (by simp; omega)
 have hs := rowC_sum hG bs.length 0 (by omega)
 have : 0 < k ^ bs.length := Nat.pow_pos (by omega)
 omega
end Go.Proofs.Ythjkodbinkiifaa.Am23
namespace Go.Proofs.Ythjkodbinkiifaa.Am23
/-! Words of one length, in order, that lead to an accepted state; and how a list of them is made depth first. -/
section
variable (k : Nat) (stp : Nat → Nat → Nat) (acc : Nat → Bool)

/-- Is there a word of m letters from a state to an accepted one? -/
def canB : Nat → Nat → Bool
 | 0, s => acc s
 | m + 1, s => (List.range k).any fun c => canB m (stp s c)

def fromW (f : Nat → List (List Nat)) : Nat → Nat → List (List Nat)
 | 0, _ => []
 | d + 1, c => f c ++ fromW f d (c + 1)
/-- A letter that would come too early; what is left of the bound behind a letter. -/
def lowC : Option (List Nat) → Nat → Bool
 | some (l :: _), c => decide (c < l)
 | _, _ => false
def tlO : Option (List Nat) → Nat → Option (List Nat)
 | some (l :: r), c => if c = l then some r else none
 | _, _ => none
/-- The words of m letters from a state, not ahead of a word. -/
def allW : Nat → Nat → Option (List Nat) → List (List Nat)
 | 0, s, _ => if acc s then [[]] else []
 | m + 1, s, low => fromW (fun c => if lowC low c then [] else (allW m (stp s c) (tlO low c)).map (c :: ·)) k 0

theorem fromW_nil {f : Nat → List (List Nat)} : ∀ d c, (∀ i, c ≤ i → i < c + d → f i = []) → fromW f d c = []
 | 0, _, _ => rfl
 | d + 1, c, h => by rw [fromW, h c (by omega) (by omega), fromW_nil d (c + 1) (fun i h1 h2 => h i (by omega) (by omega))]; rfl
theorem fromW_congr {f g : Nat → List (List Nat)} : ∀ d c, (∀ i, c ≤ i → i < c + d → f i = g i) → fromW f d c = fromW g d c
 | 0, _, _ => rfl
 | d + 1, c, h => by rw [fromW, fromW, h c (by omega) (by omega), fromW_congr d (c + 1) (fun i h1 h2 => h i (by omega) (by omega))]
/-- Letters with nothing are passed over. -/
theorem fromW_skip {f : Nat → List (List Nat)} : ∀ j d c, (∀ i, c ≤ i → i < c + j → f i = []) → fromW f (j + d) c = fromW f d (c + j)
 | 0, d, c, _ => by rw [Nat.zero_add, Nat.add_zero]
 | j + 1, d, c, h => by
  rw [show j + 1 + d = (j + d) + 1 by omega, fromW, h c (by omega) (by omega), fromW_skip j d (c + 1) (fun i h1 h2 => h i (by omega) (by omega)), List.nil_append]
  congr 1
  omega
theorem canB_stp {m s c : Nat} (hc : c < k) (h : canB k stp acc (m + 1) s = false) : canB k stp acc m (stp s c) = false := by
 rw [canB, List.any_eq_false] at h
 simpa using h c (List.mem_range.2 hc)
theorem allW_nil : ∀ m s low, canB k stp acc m s = false → allW k stp acc m s low = []
 | 0, s, _, h => by rw [canB] at h; rw [allW, h]; rfl
 | m + 1, s, low, h => by
  rw [allW]
  refine fromW_nil _ _ fun i _ hi => ?_
  rw [allW_nil m _ _ (canB_stp k stp acc (by omega) h)]
  split <;> rfl
theorem take_app {α : Type} (N : Nat) (a b c : List α) : (((a ++ b).take N) ++ c).take N = (a ++ (b ++ c)).take N := by
 rw [← List.append_assoc]
 by_cases h : N ≤ (a ++ b).length
 ·rw [List.take_append_of_le_length (by rw [List.length_take]; omega), List.take_take, Nat.min_self, List.take_append_of_le_length h]
 ·rw [List.take_of_length_le (i := N) (l := a ++ b) (by omega)]

/-- Where a word leads; the states on its way. -/
def goS (w : List Nat) : Nat := w.foldl stp 0
def pathS (w : List Nat) : List Nat := (List.range (w.length + 1)).map fun i => goS stp (w.take i)
theorem goS_snoc (w : List Nat) (c : Nat) : goS stp (w ++ [c]) = stp (goS stp w) c := by unfold goS; rw [List.foldl_append]; rfl
theorem pathS_snoc (w : List Nat) (c : Nat) : pathS stp (w ++ [c]) = pathS stp w ++ [stp (goS stp w) c] := by
 unfold pathS
 rw [List.length_append, List.length_singleton, List.range_succ, List.map_append, List.map_singleton]
 congr 1
 ·refine List.map_congr_left fun i hi => ?_
  rw [List.mem_range] at hi
  rw [List.take_append_of_le_length (by omega)]
 ·rw [List.take_of_length_le (by simp), goS_snoc]
theorem pathS_top (w : List Nat) : (pathS stp w)[w.length]? = some (goS stp w) := by
 unfold pathS
 rw [List.getElem?_map, List.getElem?_range (by omega)]
 simp

structure DSt where
 w : List Nat
 tight : Bool
 next : Nat
 out : List (List Nat)
def firstC (p : Nat → Bool) : Nat → Nat → Nat
 | 0, c => c
 | d + 1, c => if p c then c else firstC p d (c + 1)
def dpop (w : List Nat) (out : List (List Nat)) : DSt ⊕ List (List Nat) :=
 if w = [] then .inr out else .inl ⟨w.dropLast, false, w.getLastD 0 + 1, out⟩
def dstep (n : Nat) (low : List Nat) (most : Nat) (D : DSt) : DSt ⊕ List (List Nat) :=
 if most ≤ D.out.length then .inr D.out
 else if D.w.length = n then dpop D.w (D.out ++ [D.w])
 else
  let c := firstC (fun c => canB k stp acc (n - D.w.length - 1) (stp (goS stp D.w) c)) (k - D.next) D.next
  if c < k then
   let t := D.tight && (c == low.getD D.w.length 0)
   .inl ⟨D.w ++ [c], t, if t && decide (D.w.length + 1 < n) then low.getD (D.w.length + 1) 0 else 0, D.out⟩
  else dpop D.w D.out
inductive Runs (n : Nat) (low : List Nat) (most : Nat) : DSt → List (List Nat) → Prop
 | done {D o} : dstep k stp acc n low most D = .inr o → Runs n low most D o
 | step {D D' o} : dstep k stp acc n low most D = .inl D' → Runs n low most D' o → Runs n low most D o

variable {n : Nat} {low : List Nat} {most : Nat}
def Pop (w : List Nat) (o R : List (List Nat)) : Prop := (w = [] ∧ R = o) ∨ (w ≠ [] ∧ Runs k stp acc n low most ⟨w.dropLast, false, w.getLastD 0 + 1, o⟩ R)
def After (w : List Nat) (o R : List (List Nat)) : Prop := (most ≤ o.length ∧ R = o.take most) ∨ (o.length < most ∧ Pop k stp acc (n := n) (low := low) (most := most) w o R)

def wds (m : Nat) (w : List Nat) (tight : Bool) (next : Nat) : List (List Nat) :=
 match m with
 | 0 => [w]
 | m + 1 => (fromW (fun c => (allW k stp acc m (stp (goS stp w) c) (if tight && (c == low.getD w.length 0) then some (low.drop (w.length + 1)) else none)).map (c :: ·)) (k - next) next).map (w ++ ·)

theorem firstC_ge (p : Nat → Bool) : ∀ d c, c ≤ firstC p d c ∧ firstC p d c ≤ c + d ∧ (∀ i, c ≤ i → i < firstC p d c → p i = false) ∧ (firstC p d c < c + d → p (firstC p d c) = true)
 | 0, c => ⟨Nat.le_refl _, Nat.le_refl _, fun i h1 h2 => by simp only [firstC] at h2; omega, fun h => by simp only [firstC] at h; omega⟩
 | d + 1, c => by
  rw [firstC]
  by_cases h : p c = true
  ·rw [if_pos h]; exact ⟨Nat.le_refl _, by omega, fun i h1 h2 => by omega, fun _ => h⟩
  ·rw [if_neg h]
   obtain ⟨a, b, e, g⟩ := firstC_ge p d (c + 1)
   refine ⟨by omega, by omega, fun i h1 h2 => ?_, fun hh => g (by omega)⟩
   by_cases hi : i = c
   ·subst hi; simpa using h
   ·exact e i (by omega) h2

theorem dpop_after {D : DSt} {w : List Nat} {o R : List (List Nat)} (hd : dstep k stp acc n low most D = dpop w o) (hl : o.length ≤ most) (h : After k stp acc (n := n) (low := low) (most := most) w o R) : Runs k stp acc n low most D R := by
 unfold dpop at hd
 rcases h with ⟨h1, h2⟩ | ⟨h1, h2⟩
 ·rw [List.take_of_length_le hl] at h2
  subst h2
  by_cases hw : w = []
  ·rw [if_pos hw] at hd; exact .done hd
  ·rw [if_neg hw] at hd
   refine .step hd (.done ?_)
   unfold dstep
   rw [if_pos h1]
 ·rcases h2 with ⟨hw, h2⟩ | ⟨hw, h2⟩
  ·rw [if_pos hw] at hd; rw [h2]; exact .done hd
  ·rw [if_neg hw] at hd; exact .step hd h2

theorem allW_low {m s l : Nat} {r : List Nat} (hl : l ≤ k) : allW k stp acc (m + 1) s (some (l :: r)) = fromW (fun c => (allW k stp acc m (stp s c) (if c == l then some r else none)).map (c :: ·)) (k - l) l := by
 rw [allW]
 have := fromW_skip (f := fun c => if lowC (some (l :: r)) c then [] else (allW k stp acc m (stp s c) (tlO (some (l :: r)) c)).map (c :: ·)) l (k - l) 0 (fun i _ hi => by
  exact if_pos (decide_eq_true (by omega)))
 rw [show l + (k - l) = k by omega, Nat.zero_add] at this
 rw [this]
 refine fromW_congr _ _ fun i h1 h2 => ?_
 show (if decide (i < l) = true then [] else (allW k stp acc m (stp s i) (if i = l then some r else none)).map (i :: ·)) = _
 refine (if_neg (by rw [decide_eq_true_eq]; omega)).trans ?_
 by_cases hi : i = l
 ·rw [if_pos hi, if_pos (by rw [hi]; exact beq_self_eq_true l)]
 ·rw [if_neg hi, if_neg (by rw [beq_iff_eq]; exact hi)]
theorem allW_none {m s : Nat} : allW k stp acc (m + 1) s none = fromW (fun c => (allW k stp acc m (stp s c) none).map (c :: ·)) k 0 := by
 rw [allW]
 exact fromW_congr _ _ fun i h1 h2 => rfl

theorem claim (hlow : ∀ i, low.getD i 0 < k) : ∀ (m : Nat) (d : Nat) (w : List Nat) (tight : Bool) (next : Nat) (out R : List (List Nat)), w.length + m = n → next + d = k → (tight = true → low.length = n) → (tight = true → 0 < m → low.getD w.length 0 ≤ next) → (m = 0 → acc (goS stp w) = true) → out.length < most →
  After k stp acc (n := n) (low := low) (most := most) w (out ++ wds k stp acc (low := low) m w tight next) R → Runs k stp acc n low most ⟨w, tight, next, out⟩ R := by
 intro m
 induction m with
 | zero =>
  intro d w tight next out R hw hd ht htn ha ho h
  refine dpop_after k stp acc (w := w) (o := out ++ [w]) ?_ (by simp; omega) h
  unfold dstep
  simp only
  rw [if_neg (by omega), if_pos (by omega)]
 | succ m ihm =>
  intro d
  induction d using Nat.strongRecOn with
  | _ d ihd =>
  intro w tight next out R hw hd ht htn ha ho h
  obtain ⟨c1, c2, c3, c4⟩ := firstC_ge (fun c => canB k stp acc m (stp (goS stp w) c)) (k - next) next
  have hm : n - w.length - 1 = m := by omega
  have hstep : dstep k stp acc n low most ⟨w, tight, next, out⟩ = (let c := firstC (fun c => canB k stp acc m (stp (goS stp w) c)) (k - next) next
   if c < k then .inl ⟨w ++ [c], tight && (c == low.getD w.length 0), if (tight && (c == low.getD w.length 0)) && decide (w.length + 1 < n) then low.getD (w.length + 1) 0 else 0, out⟩ else dpop w out) := by
   unfold dstep
   rw [if_neg (by show ¬ most ≤ out.length; omega), if_neg (by show ¬ w.length = n; omega), show n - (DSt.mk w tight next out).w.length - 1 = m from hm]
  obtain ⟨c, hc⟩ : ∃ c, firstC (fun c => canB k stp acc m (stp (goS stp w) c)) (k - next) next = c := ⟨_, rfl⟩
  rw [hc] at hstep c1 c2 c3 c4
  simp only at hstep
  have hskip : ∀ (low' : Nat → Option (List Nat)), fromW (fun c => (allW k stp acc m (stp (goS stp w) c) (low' c)).map (c :: ·)) (k - next) next = fromW (fun c => (allW k stp acc m (stp (goS stp w) c) (low' c)).map (c :: ·)) (k - c) c := fun low' => by
   have := fromW_skip (f := fun c => (allW k stp acc m (stp (goS stp w) c) (low' c)).map (c :: ·)) (c - next) (k - c) next (fun i h1 h2 => by
    rw [allW_nil k stp acc m _ _ (c3 i h1 (by omega))]; rfl)
   rw [show c - next + (k - c) = k - next by omega, show next + (c - next) = c by omega] at this
   exact this
  by_cases hck : c < k
  ·rw [if_pos hck] at hstep
   have hcan := c4 (by omega)
   obtain ⟨t, htd⟩ : ∃ t, (tight && (c == low.getD w.length 0)) = t := ⟨_, rfl⟩
   rw [htd] at hstep
   have htt : t = true → tight = true := fun e => by rw [e] at htd; simp at htd; exact htd.1
   refine .step hstep ?_
   refine ihm (k - (if (t && decide (w.length + 1 < n)) = true then low.getD (w.length + 1) 0 else 0)) (w ++ [c]) t _ out R (by simp; omega) (by
    have := hlow (w.length + 1)
    split <;> omega) (fun e => ht (htt e)) (fun e hm0 => ?_) (fun e => ?_) ho ?_
   ·rw [if_pos (by rw [e]; simp; omega)]
    rw [List.length_append, List.length_singleton]
    exact Nat.le_refl _
   ·subst e; rw [goS_snoc]; exact hcan
   -- what is listed below the letter
   have hch : wds k stp acc (low := low) m (w ++ [c]) t (if (t && decide (w.length + 1 < n)) = true then low.getD (w.length + 1) 0 else 0) = ((allW k stp acc m (stp (goS stp w) c) (if t then some (low.drop (w.length + 1)) else none)).map (c :: ·)).map (w ++ ·) := by
    cases m with
    | zero =>
     have : acc (stp (goS stp w) c) = true := hcan
     simp only [wds, allW, this, if_true]
     simp
    | succ m' =>
     simp only [wds, goS_snoc]
     have hmap : ∀ l : List (List Nat), l.map (fun x => w ++ [c] ++ x) = (l.map (c :: ·)).map (w ++ ·) := fun l => by
      rw [List.map_map]
      refine List.map_congr_left fun a _ => ?_
      simp
     rw [hmap]
     congr 2
     cases ht' : t with
     | false => simp only [Bool.false_and, Bool.false_eq_true, if_false, Nat.sub_zero]; exact (allW_none k stp acc).symm
     | true =>
      have hlen := ht (htt ht')
      have hlt : w.length + 1 < low.length := by omega
      simp only [Bool.true_and, if_true]
      rw [if_pos (by simp; omega)]
      rw [List.drop_eq_getElem_cons hlt, allW_low k stp acc (by have := hlow (w.length + 1); rw [List.getD_eq_getElem?_getD, List.getElem?_eq_getElem hlt] at this; simp at this; omega)]
      simp [List.getD_eq_getElem?_getD, List.getElem?_eq_getElem hlt]
   rw [hch]
   -- all words of this place
   have hall : wds k stp acc (low := low) (m + 1) w tight next = ((allW k stp acc m (stp (goS stp w) c) (if t then some (low.drop (w.length + 1)) else none)).map (c :: ·)).map (w ++ ·) ++ wds k stp acc (low := low) (m + 1) w false (c + 1) := by
    simp only [wds]
    rw [hskip (fun c => if (tight && (c == low.getD w.length 0)) = true then some (low.drop (w.length + 1)) else none), show k - c = (k - (c + 1)) + 1 by omega, fromW, htd, List.map_append]
    congr 2
    refine fromW_congr _ _ fun i h1 h2 => ?_
    have : (tight && (i == low.getD w.length 0)) = false := by
     cases tight with
     | false => rfl
     | true => have := htn rfl (by omega); rw [Bool.true_and, beq_eq_false_iff_ne]; omega
    rw [this]
    simp
   rw [hall, ← List.append_assoc] at h
   obtain ⟨o, hoo⟩ : ∃ o, out ++ ((allW k stp acc m (stp (goS stp w) c) (if t then some (low.drop (w.length + 1)) else none)).map (c :: ·)).map (w ++ ·) = o := ⟨_, rfl⟩
   rw [hoo] at h ⊢
   by_cases hom : most ≤ o.length
   ·refine .inl ⟨hom, ?_⟩
    rcases h with ⟨_, h2⟩ | ⟨h1, _⟩
    ·rw [h2, List.take_append_of_le_length hom]
    ·simp at h1; omega
   ·refine .inr ⟨by omega, .inr ⟨by simp, ?_⟩⟩
    rw [List.dropLast_concat, show (w ++ [c]).getLastD 0 = c by simp]
    exact ihd (k - (c + 1)) (by omega) w false (c + 1) o R hw (by omega) (fun e => by cases e) (fun e => by cases e) (fun e => by omega) (by omega) h
  ·rw [if_neg hck] at hstep
   refine dpop_after k stp acc hstep (by omega) ?_
   have : wds k stp acc (low := low) (m + 1) w tight next = [] := by
    simp only [wds]
    rw [hskip (fun c => if (tight && (c == low.getD w.length 0)) = true then some (low.drop (w.length + 1)) else none), show k - c = 0 by omega]
    rfl
   rw [this, List.append_nil] at h
   exact h

/-- All words of a length, from the word low on (the empty word: from the first one on), behind those that are there. -/
theorem listed_runs (hlow : ∀ i, low.getD i 0 < k) (hn : low ≠ [] → low.length = n) {out : List (List Nat)} (ho : out.length < most) (hcan : canB k stp acc n 0 = true) :
  Runs k stp acc n low most ⟨[], !low.isEmpty, low.getD 0 0, out⟩ ((out ++ allW k stp acc n 0 (if low = [] then none else some low)).take most) := by
 refine claim k stp acc hlow n (k - low.getD 0 0) [] _ _ out _ (by simp) (by have := hlow 0; omega) (fun e => hn (by intro h; subst h; simp at e)) (fun _ _ => Nat.le_refl _) (fun e => by subst e; exact hcan) ho ?_
 have hw : wds k stp acc (low := low) n [] (!low.isEmpty) (low.getD 0 0) = allW k stp acc n 0 (if low = [] then none else some low) := by
  cases n with
  | zero =>
   have : acc 0 = true := hcan
   simp [wds, allW, this]
  | succ m =>
   simp only [wds]
   have hid : ∀ l : List (List Nat), l.map (fun x => ([] : List Nat) ++ x) = l := fun l => by simp
   rw [hid]
   cases low with
   | nil => rw [if_pos rfl, allW_none]; simp [goS]
   | cons l r =>
    rw [if_neg (by simp), allW_low k stp acc (by have := hlow 0; simp at this; omega)]
    simp [goS]
 rw [hw]
 by_cases h : most ≤ (out ++ allW k stp acc n 0 (if low = [] then none else some low)).length
 ·exact .inl ⟨h, rfl⟩
 ·exact .inr ⟨by omega, .inl ⟨rfl, List.take_of_length_le (by omega)⟩⟩
end
end Go.Proofs.Ythjkodbinkiifaa.Am23
set_option linter.unusedVariables false
open Go Go.Proofs.Ythjkodbinkiifaa.Am
namespace Go.Proofs.Ythjkodbinkiifaa.Am23
section
variable {x0a x11 z4 z11 x4 x20 x21 x25 x29 x34 : Int}
variable {x0ba x0ca x9a x15a x19a z5a x5a x41a : Option Addr}
variable {x0bn x0bc x0cn x0cc prot x2p x2o x2l x3p x3o x3l x9n x9c z2p z2o z2l z3p z3o z3l x1p x1o x1l x15n x15c x19n x19c z1p z1o z1l z5n z5c x5n x5c x24p x24o x24l x36p x36o x36l x46p x46o x46l x41n x41c x43p x43o x43l : Nat}
variable {H H1 H2 H3 H4 H5 H0 : AHeap}
variable {x53 w : Array Value}
variable {x37 x44 : Bool}
theorem f45_F_0 (rv : Value) (rH : AHeap) (h1 : [vI x0a, vS x0ba x0bn x0bc, vS x0ca x0cn x0cc].all isCell = true) (h2 : aalloc cfg.P 72 (H ++ [vo [vI x0a, vS x0ba x0bn x0bc, vS x0ca x0cn x0cc] 25]) = some (vP x2p x2o x2l, H1)) (h3 : aalloc cfg.P 72 H1 = some (vP x3p x3o x3l, H2)) (h4 : getCells H2 H.length 3 (0 + 2) 1 = some [vS x9a x9n x9c]) (h5 : (0 : Int) ≤ 0) (h6 : 0 < (↑4097 : Int)) (h7 : 1 = 1) (h8 : setCells H2 H.length x3p x3l (x3o + Int.toNat 0 * 1) [vS x9a x9n x9c] = some H3) (h9 : lI a45 0 prot H ([vP H.length 0 3, vP x2p x2o x2l, vP x3p x3o x3l, vI 0], H3) = some (Ex.exit 0, [vP z2p z2o z2l, vP z3p z3o z3l], H4)) (h10 : getCells H4 z3p z3l z3o 4097 = some x53.toList) (h11 : x53.toList.length = 4097) (h12 : setCells H4 H.length z2p z2l z2o x53.toList = some H5) (h13 : getCells H5 z2p z2l z2o 4097 = some w.toList) (h14 : pfin a45 H [Value.agg w] H5 = (rv, rH)) : callInf cfg 45 [.agg #[.int .i64 x0a, .slice x0ba x0bn x0bc, .slice x0ca x0cn x0cc]] prot H = some (rv, rH) :=
 fn_of2 a45 [.e, .r (vP x2p x2o x2l) H1, .r (vP x3p x3o x3l) H2, .v (vS x9a x9n x9c), .e, .h H3, .lo (.exit 0, [vP z2p z2o z2l, vP z3p z3o z3l], H4), .v (.agg x53), .h H5, .v (.agg w)] (ai h1 (ai h2 (ai h3 (ai h4 (ai h5 (ai h6 (ai h7 (ai h8 (ai h9 (ai h10 (ai h11 (ai h12 (ai h13 h14))))))))))))) (by kernel_rfl) rfl
theorem f45_L0_0 (h1 : x11 < 4096) (h2 : getCells H x1p x1l (x1o + 2) 1 = some [vS x15a x15n x15c]) (h3 : 0 ≤ (↑x15n : Int)) (h4 : (↑x15n : Int) = (↑x15n : Int)) (h5 : (↑x15n : Int) ≤ 9223372036854775807) (h6 : (↑1 : Int) * (↑x15n : Int) ≤ 2 ^ 48) (h7 : getCells (H ++ [AObj.cells (repCells [Value.bool false] (↑x15n : Int).toNat) 4 (repCells [Value.bool false] (↑x15n : Int).toNat).length OMode.row]) x1p x1l (x1o + 1) 1 = some [vS x19a x19n x19c]) (h8 : lI a45 1 prot H0 ([vP x1p x1o x1l, vP x2p x2o x2l, vP x3p x3o x3l, vI x11, vS (some ⟨H.length, 0, some ((↑x15n : Int).toNat * 1)⟩) (↑x15n : Int).toNat (↑x15n : Int).toNat, vI x11, vS x19a x19n x19c, vI (↑x19n : Int), vI 0], H ++ [AObj.cells (repCells [Value.bool false] (↑x15n : Int).toNat) 4 (repCells [Value.bool false] (↑x15n : Int).toNat).length OMode.row]) = some (Ex.exit 2, [vP z1p z1o z1l, vP z2p z2o z2l, vP z3p z3o z3l, vI z4, vS z5a z5n z5c, vI z11], H2)) (h9 : Fit .i64 (z4 + 1)) (h10 : 0 ≤ z4 + 1) (h11 : z4 + 1 < (↑4097 : Int)) (h12 : 1 = 1) (h13 : setCells H2 H0.length z3p z3l (z3o + (z4 + 1).toNat * 1) [vS z5a z5n z5c] = some H3) (h14 : Fit .i64 (z11 + 1)) : lpOf cfg a45 0 prot H0 ([.pointer (some ⟨x1p, x1o, some x1l⟩), .pointer (some ⟨x2p, x2o, some x2l⟩), .pointer (some ⟨x3p, x3o, some x3l⟩), .int .i64 x11], H) = some (Sum.inl ([Value.pointer (some ⟨z1p, z1o, some z1l⟩), Value.pointer (some ⟨z2p, z2o, some z2l⟩), Value.pointer (some ⟨z3p, z3o, some z3l⟩), Value.int .i64 (z11 + 1)], H3)) :=
 lp_of2 [.e, .b true, .v (vS x15a x15n x15c), .e, .e, .v (vS x19a x19n x19c), .e, .lo (.exit 2, [vP z1p z1o z1l, vP z2p z2o z2l, vP z3p z3o z3l, vI z4, vS z5a z5n z5c, vI z11], H2), .e, .e, .h H3, .e] (ai (decide_eq_true h1) (ai h2 (ai h3 (ai h4 (ai h5 (ai h6 (ai h7 (ai h8 (ai h9 (ai h10 (ai h11 (ai h12 (ai h13 (ai h14 (Eq.refl (Sum.inl ([vP z1p z1o z1l, vP z2p z2o z2l, vP z3p z3o z3l, vI (z11 + 1)], H3) : LS ⊕ LO)))))))))))))))) (by kernel_rfl)
theorem f45_L0_1 (h1 : ¬(x11 < 4096)) : lpOf cfg a45 0 prot H0 ([.pointer (some ⟨x1p, x1o, some x1l⟩), .pointer (some ⟨x2p, x2o, some x2l⟩), .pointer (some ⟨x3p, x3o, some x3l⟩), .int .i64 x11], H) = some (Sum.inr (Ex.exit 0, [Value.pointer (some ⟨x2p, x2o, some x2l⟩), Value.pointer (some ⟨x3p, x3o, some x3l⟩)], H)) :=
 lp_of2 [.e, .b false] (ai (decide_eq_false h1) (Eq.refl (Sum.inr (Ex.exit 0, [vP x2p x2o x2l, vP x3p x3o x3l], H) : LS ⊕ LO))) (by kernel_rfl)
theorem f45_L1_0 (h1 : x21 < x20) (h2 : aX 22 (vS x19a x19n x19c) (vI x21) = some (vP x24p x24o x24l)) (h3 : getCells H x24p x24l x24o 1 = some [vI x25]) (h4 : getCells H x1p x1l (x1o + 0) 1 = some [vI x29]) (h5 : x29 ≠ 0) (h6 : Fit .i64 (x21.tdiv x29)) (h7 : getCells H x1p x1l (x1o + 0) 1 = some [vI x34]) (h8 : x34 ≠ 0) (h9 : Fit .i64 (x21.tdiv x34)) (h10 : aX 23 (vS x5a x5n x5c) (vI (x21.tdiv x34)) = some (vP x36p x36o x36l)) (h11 : getCells H x36p x36l x36o 1 = some [Value.bool x37]) (h12 : x37 = true) (h13 : aX 23 (vS x5a x5n x5c) (vI (x21.tdiv x29)) = some (vP x46p x46o x46l)) (h14 : 1 = 1) (h15 : setCells H H0.length x46p x46l x46o [Value.bool true] = some H2) (h16 : Fit .i64 (x21 + 1)) : lpOf cfg a45 1 prot H0 ([.pointer (some ⟨x1p, x1o, some x1l⟩), .pointer (some ⟨x2p, x2o, some x2l⟩), .pointer (some ⟨x3p, x3o, some x3l⟩), .int .i64 x4, .slice x5a x5n x5c, .int .i64 x11, .slice x19a x19n x19c, .int .i64 x20, .int .i64 x21], H) = some (Sum.inl ([Value.pointer (some ⟨x1p, x1o, some x1l⟩), Value.pointer (some ⟨x2p, x2o, some x2l⟩), Value.pointer (some ⟨x3p, x3o, some x3l⟩), Value.int .i64 x4, Value.slice x5a x5n x5c, Value.int .i64 x11, Value.slice x19a x19n x19c, Value.int .i64 x20, Value.int .i64 (x21 + 1)], H2)) :=
 lp_of2 [.e, .b true, .v (vP x24p x24o x24l), .v (vI x25), .v (vI x29), .e, .v (vI x34), .e, .v (vP x36p x36o x36l), .v (.bool x37), .b true, .b true, .b true, .b true, .b true, .b true, .b true, .v (vP x46p x46o x46l), .h H2, .e] (ai (decide_eq_true h1) (ai h2 (ai h3 (ai h4 (ai h5 (ai h6 (ai h7 (ai h8 (ai h9 (ai h10 (ai h11 (ai h12 (ai h12 (ai h12 (ai h12 (ai h12 (ai h12 (ai h12 (ai h13 (ai h14 (ai h15 (ai h16 (Eq.refl (Sum.inl ([vP x1p x1o x1l, vP x2p x2o x2l, vP x3p x3o x3l, vI x4, vS x5a x5n x5c, vI x11, vS x19a x19n x19c, vI x20, vI (x21 + 1)], H2) : LS ⊕ LO)))))))))))))))))))))))) (by kernel_rfl)
theorem f45_L1_1 (h1 : x21 < x20) (h2 : aX 22 (vS x19a x19n x19c) (vI x21) = some (vP x24p x24o x24l)) (h3 : getCells H x24p x24l x24o 1 = some [vI x25]) (h4 : getCells H x1p x1l (x1o + 0) 1 = some [vI x29]) (h5 : x29 ≠ 0) (h6 : Fit .i64 (x21.tdiv x29)) (h7 : getCells H x1p x1l (x1o + 0) 1 = some [vI x34]) (h8 : x34 ≠ 0) (h9 : Fit .i64 (x21.tdiv x34)) (h10 : aX 23 (vS x5a x5n x5c) (vI (x21.tdiv x34)) = some (vP x36p x36o x36l)) (h11 : getCells H x36p x36l x36o 1 = some [Value.bool x37]) (h12 : x37 = false) (h13 : 0 ≤ x4) (h14 : x4 < (↑4097 : Int)) (h15 : getCells H x3p x3l (x3o + x4.toNat * 1) 1 = some [vS x41a x41n x41c]) (h16 : aX 23 (vS x41a x41n x41c) (vI x25) = some (vP x43p x43o x43l)) (h17 : getCells H x43p x43l x43o 1 = some [Value.bool x44]) (h18 : aX 23 (vS x5a x5n x5c) (vI (x21.tdiv x29)) = some (vP x46p x46o x46l)) (h19 : 1 = 1) (h20 : setCells H H0.length x46p x46l x46o [Value.bool x44] = some H2) (h21 : Fit .i64 (x21 + 1)) : lpOf cfg a45 1 prot H0 ([.pointer (some ⟨x1p, x1o, some x1l⟩), .pointer (some ⟨x2p, x2o, some x2l⟩), .pointer (some ⟨x3p, x3o, some x3l⟩), .int .i64 x4, .slice x5a x5n x5c, .int .i64 x11, .slice x19a x19n x19c, .int .i64 x20, .int .i64 x21], H) = some (Sum.inl ([Value.pointer (some ⟨x1p, x1o, some x1l⟩), Value.pointer (some ⟨x2p, x2o, some x2l⟩), Value.pointer (some ⟨x3p, x3o, some x3l⟩), Value.int .i64 x4, Value.slice x5a x5n x5c, Value.int .i64 x11, Value.slice x19a x19n x19c, Value.int .i64 x20, Value.int .i64 (x21 + 1)], H2)) :=
 lp_of2 [.e, .b true, .v (vP x24p x24o x24l), .v (vI x25), .v (vI x29), .e, .v (vI x34), .e, .v (vP x36p x36o x36l), .v (.bool x37), .b false, .b false, .e, .b false, .v (vS x41a x41n x41c), .b false, .b false, .v (vP x43p x43o x43l), .b false, .v (.bool x44), .b false, .v (vP x46p x46o x46l), .h H2, .e] (ai (decide_eq_true h1) (ai h2 (ai h3 (ai h4 (ai h5 (ai h6 (ai h7 (ai h8 (ai h9 (ai h10 (ai h11 (ai h12 (ai h12 (ai h13 (ai h14 (ai h12 (ai h15 (ai h12 (ai h12 (ai h16 (ai h12 (ai h17 (ai h12 (ai h18 (ai h19 (ai h20 (ai h21 (Eq.refl (Sum.inl ([vP x1p x1o x1l, vP x2p x2o x2l, vP x3p x3o x3l, vI x4, vS x5a x5n x5c, vI x11, vS x19a x19n x19c, vI x20, vI (x21 + 1)], H2) : LS ⊕ LO))))))))))))))))))))))))))))) (by kernel_rfl)
theorem f45_L1_2 (h1 : ¬(x21 < x20)) : lpOf cfg a45 1 prot H0 ([.pointer (some ⟨x1p, x1o, some x1l⟩), .pointer (some ⟨x2p, x2o, some x2l⟩), .pointer (some ⟨x3p, x3o, some x3l⟩), .int .i64 x4, .slice x5a x5n x5c, .int .i64 x11, .slice x19a x19n x19c, .int .i64 x20, .int .i64 x21], H) = some (Sum.inr (Ex.exit 2, [Value.pointer (some ⟨x1p, x1o, some x1l⟩), Value.pointer (some ⟨x2p, x2o, some x2l⟩), Value.pointer (some ⟨x3p, x3o, some x3l⟩), Value.int .i64 x4, Value.slice x5a x5n x5c, Value.int .i64 x11], H)) :=
 lp_of2 [.e, .b false] (ai (decide_eq_false h1) (Eq.refl (Sum.inr (Ex.exit 2, [vP x1p x1o x1l, vP x2p x2o x2l, vP x3p x3o x3l, vI x4, vS x5a x5n x5c, vI x11], H) : LS ⊕ LO))) (by kernel_rfl)
end
end Go.Proofs.Ythjkodbinkiifaa.Am23
set_option linter.unusedVariables false
open Go Go.Proofs.Ythjkodbinkiifaa.Am
namespace Go.Proofs.Ythjkodbinkiifaa.Am23
section
variable {x0 x1 : Int}
variable {x2p x2o x2l prot x8n x8c x10p x10o x10l : Nat}
variable {H : AHeap}
variable {x8a : Option Addr}
variable {x11 : Bool}
theorem f46_F_0 (h1 : 0 ≤ x1) (h2 : x1 < (↑4097 : Int)) (h3 : getCells H x2p x2l (x2o + x1.toNat * 1) 1 = some [vS x8a x8n x8c]) (h4 : aX 23 (vS x8a x8n x8c) (vI x0) = some (vP x10p x10o x10l)) (h5 : getCells H x10p x10l x10o 1 = some [Value.bool x11]) : callInf cfg 46 [.int .i64 x0, .int .i64 x1, .pointer (some ⟨x2p, x2o, some x2l⟩)] prot H = some (Value.bool x11, H) :=
 fn_of2 a46 [.e, .v (vS x8a x8n x8c), .v (vP x10p x10o x10l), .v (.bool x11)] (ai h1 (ai h2 (ai h3 (ai h4 (ai h5 (Eq.refl ((Value.bool x11, H) : Value × AHeap))))))) (by kernel_rfl) rfl
end
end Go.Proofs.Ythjkodbinkiifaa.Am23
namespace Go.Proofs.Ythjkodbinkiifaa.Am23
open Go Go.Proofs.Ythjkodbinkiifaa.Am

theorem z72 : tzero cfg.P 72 = some (.agg ((List.replicate 4097 (.slice none 0 0)).toArray)) := by kernel_rfl
def accB (bs : List Bool) : Nat → Bool := fun t => bs.getD t false
/-- From which states is there a word of m letters to an accepted one? -/
def canL (k : Nat) (xs : List Int) (bs : List Bool) (m : Nat) : List Bool := (List.range bs.length).map (canB k (tgt k xs) (accB bs) m)
theorem canL_len (k : Nat) (xs : List Int) (bs : List Bool) (m : Nat) : (canL k xs bs m).length = bs.length := by simp [canL]
theorem canL_get {k : Nat} {xs : List Int} {bs : List Bool} {m s : Nat} (hs : s < bs.length) : (canL k xs bs m).getD s false = canB k (tgt k xs) (accB bs) m s := by
 unfold canL
 rw [List.getD_eq_getElem?_getD, List.getElem?_map, List.getElem?_range hs]; rfl
theorem canL_zero (k : Nat) (xs : List Int) (bs : List Bool) : canL k xs bs 0 = bs := by
 apply List.ext_getElem
 ·exact canL_len k xs bs 0
 ·intro i h1 h2
  have := canL_get (k := k) (xs := xs) (bs := bs) (m := 0) (s := i) h2
  rw [List.getD_eq_getElem?_getD, List.getElem?_eq_getElem h1] at this
  simp only [Option.getD_some] at this
  rw [this, canB, accB, List.getD_eq_getElem?_getD, List.getElem?_eq_getElem h2]; rfl

def anyF (g : Nat → Bool) : Nat → Nat → Bool
 | 0, _ => false
 | d + 1, c => g c || anyF g d (c + 1)
theorem anyF_range (g : Nat → Bool) : ∀ d c, (List.range' c d).any g = anyF g d c
 | 0, c => rfl
 | d + 1, c => by rw [List.range'_succ, List.any_cons, anyF_range g d (c + 1)]; rfl
theorem canB_any (k : Nat) (stp : Nat → Nat → Nat) (acc : Nat → Bool) (m s : Nat) : canB k stp acc (m + 1) s = anyF (fun c => canB k stp acc m (stp s c)) k 0 := by
 rw [canB, List.range_eq_range', anyF_range]
theorem anyF_congr {f g : Nat → Bool} : ∀ d c, (∀ i, c ≤ i → i < c + d → f i = g i) → anyF f d c = anyF g d c
 | 0, _, _ => rfl
 | d + 1, c, h => by rw [anyF, anyF, h c (by omega) (by omega), anyF_congr d (c + 1) (fun i h1 h2 => h i (by omega) (by omega))]
def orP (k : Nat) (xs : List Int) (C : List Bool) : Nat → Nat → List Bool → List Bool
 | 0, _, D => D
 | d + 1, i, D => orP k xs C d (i + 1) (D.set (i / k) (D.getD (i / k) false || C.getD (xs.getD i 0).toNat false))
theorem orP_len (k : Nat) (xs : List Int) (C : List Bool) : ∀ d i D, (orP k xs C d i D).length = D.length
 | 0, _, _ => rfl
 | d + 1, i, D => by simp only [orP, orP_len k xs C d, List.length_set]
theorem orP_get {k : Nat} {xs : List Int} {bs : List Bool} (hG : Good k xs bs) {C : List Bool} {s : Nat} (hs : s < bs.length) : ∀ (d i : Nat) (D : List Bool), i + d = xs.length → D.length = bs.length →
  (orP k xs C d i D).getD s false = (D.getD s false || anyF (fun c => C.getD (tgt k xs s c) false) (k - min k (i - s * k)) (min k (i - s * k)))
 | 0, i, D, hi, hD => by
  have hxl := hG.nx
  have : (s + 1) * k ≤ bs.length * k := Nat.mul_le_mul (by omega) (Nat.le_refl k)
  rw [Nat.add_mul, Nat.one_mul] at this
  simp only [orP]
  rw [Nat.min_eq_left (by omega), Nat.sub_self]
  simp [anyF]
 | d + 1, i, D, hi, hD => by
  have hk := hG.k1
  have hxl := hG.nx
  have hsi : i / k < bs.length := Nat.div_lt_of_lt_mul (by rw [Nat.mul_comm]; omega)
  have ih := orP_get hG (C := C) hs d (i + 1) (D.set (i / k) (D.getD (i / k) false || C.getD (xs.getD i 0).toNat false)) (by omega) (by simp [hD])
  simp only [orP]
  rw [ih]
  have hdm := Nat.div_add_mod i k
  have hml := Nat.mod_lt i (show 0 < k by omega)
  by_cases he : s = i / k
  ·subst he
   have e0 : i / k * k + i % k = i := by rw [Nat.mul_comm]; omega
   have e1 : min k (i + 1 - i / k * k) = i % k + 1 := by omega
   have e2 : min k (i - i / k * k) = i % k := by omega
   have e3 : tgt k xs (i / k) (i % k) = (xs.getD i 0).toNat := by unfold tgt; rw [e0]
   have e4 : k - i % k = (k - (i % k + 1)) + 1 := by omega
   have e5 : (D.set (i / k) (D.getD (i / k) false || C.getD (xs.getD i 0).toNat false)).getD (i / k) false = (D.getD (i / k) false || C.getD (xs.getD i 0).toNat false) := by
    rw [List.getD_eq_getElem?_getD, List.getElem?_set_self (by omega)]; rfl
   rw [e5, e1, e2, e4, anyF, e3, Bool.or_assoc]
  ·have e5 : (D.set (i / k) (D.getD (i / k) false || C.getD (xs.getD i 0).toNat false)).getD s false = D.getD s false := by
    rw [List.getD_eq_getElem?_getD, List.getElem?_set_ne (fun e => he e.symm), ← List.getD_eq_getElem?_getD]
   have : min k (i + 1 - s * k) = min k (i - s * k) := by
    rcases Nat.lt_or_ge s (i / k) with h | h
    ·have : (s + 1) * k ≤ i / k * k := Nat.mul_le_mul h (Nat.le_refl k)
     rw [Nat.add_mul, Nat.one_mul] at this
     rw [Nat.mul_comm (i / k) k] at this
     omega
    ·have : (i / k + 1) * k ≤ s * k := Nat.mul_le_mul (by omega) (Nat.le_refl k)
     rw [Nat.add_mul, Nat.one_mul, Nat.mul_comm (i / k) k] at this
     omega
   rw [e5, this]
theorem canL_succ {k : Nat} {xs : List Int} {bs : List Bool} (hG : Good k xs bs) (m : Nat) : orP k xs (canL k xs bs m) xs.length 0 (List.replicate bs.length false) = canL k xs bs (m + 1) := by
 apply List.ext_getElem
 ·rw [orP_len, canL_len, List.length_replicate]
 ·intro i h1 h2
  have hi : i < bs.length := by rw [canL_len] at h2; exact h2
  have e1 := orP_get hG (C := canL k xs bs m) hi xs.length 0 (List.replicate bs.length false) (by omega) (by simp)
  have e2 := canL_get (k := k) (xs := xs) (bs := bs) (m := m + 1) (s := i) hi
  rw [List.getD_eq_getElem?_getD, List.getElem?_eq_getElem h1] at e1
  rw [List.getD_eq_getElem?_getD, List.getElem?_eq_getElem h2] at e2
  simp only [Option.getD_some] at e1 e2
  rw [e1, e2, canB_any]
  have : (List.replicate bs.length false).getD i false = false := by simp [List.getD_eq_getElem?_getD, hi]
  rw [this, Bool.false_or, Nat.zero_sub, Nat.min_zero, Nat.sub_zero]
  exact anyF_congr _ _ fun c _ hc => canL_get (tgt_lt hG hi (by omega)).2.1

theorem loop45i {k : Nat} {xs : List Int} {bs : List Bool} (hG : Good k xs bs) {H0 : AHeap} {prot p2 p3 o m : Nat} {vN vA x5 v : Value} {L : List Value} {C : List Bool} (hm : m < 4097) (hC : C.length = bs.length) (ho : H0.length < o) (ho3 : p3 < o)
  (hlN : Low H0.length vN) (hlv : Low o v) (hL : L.length = 4097) (hLm : L[m]? = some v) : ∀ (d i : Nat) (D : List Bool) (H : AHeap), i + d = xs.length → D.length = bs.length →
  H[H0.length]? = some (bx k vN vA) → Rd H 3 1 vN xs.length (il xs) → H[p3]? = some (.cells L 72 4097 .var) → Rd H 4 1 v bs.length (bll C) → Own H 4 1 x5 (some o) bs.length (bll D) →
  ∃ H', lpInf (lpOf cfg a45 1 prot H0) ([.pointer (some ⟨H0.length, 0, some 3⟩), .pointer (some ⟨p2, 0, some 4097⟩), .pointer (some ⟨p3, 0, some 4097⟩), .int .i64 m, x5, .int .i64 m, vN, .int .i64 xs.length, .int .i64 i], H) =
   some (.exit 2, [.pointer (some ⟨H0.length, 0, some 3⟩), .pointer (some ⟨p2, 0, some 4097⟩), .pointer (some ⟨p3, 0, some 4097⟩), .int .i64 m, x5, .int .i64 m], H') ∧ Own H' 4 1 x5 (some o) bs.length (bll (orP k xs C d i D)) ∧ Stay (some o) H H' ∧ H'.length = H.length
 | 0, i, D, H, hi, hD, hb, hN, h3, hv, w5 => by
  obtain ⟨_, _, rfl⟩ := w5.len
  obtain ⟨_, _, rfl⟩ := hN.len
  exact ⟨H, lp_last (f45_L1_2 (by omega)), w5, Stay.refl _ _, rfl⟩
 | d + 1, i, D, H, hi, hD, hb, hN, h3, hv, w5 => by
  have hk := hG.k1
  have hn5 := hG.n5
  have hk8 := hG.k8
  have hxl := hG.nx
  have hb8 : bs.length * k ≤ 512 * 8 := Nat.mul_le_mul hn5 hk8
  have hil : i < xs.length := by omega
  obtain ⟨t, ht, htl⟩ := hG.r i xs[i] (List.getElem?_eq_getElem hil)
  have hs : i / k < bs.length := Nat.div_lt_of_lt_mul (by rw [Nat.mul_comm]; omega)
  obtain ⟨g0, _, _, _⟩ := fld3 hb
  obtain ⟨idN, LN, n1, n2⟩ := rd_at T22 hN (il_get hil)
  rw [ht] at n2
  have etd : (i : Int).tdiv (k : Int) = ((i / k : Nat) : Int) := by rw [Int.ofNat_tdiv]
  have hDs : (bll D)[i / k]? = some (.bool (D.getD (i / k) false)) := bl_at (show i / k < D.length by omega)
  have hCt : (bll C)[t]? = some (.bool (C.getD t false)) := bl_at (show t < C.length by omega)
  obtain ⟨_, e1, p1, q1⟩ := own_at T23 w5 hDs
  cases e1
  obtain ⟨idv, Lv, v1, v2⟩ := rd_at T23 hv hCt
  obtain ⟨_, H2, e3, s1, s2, s3, s4, s5⟩ := own_setS T23 w5 (i := i / k) (j := 0) hs (vs := [.bool (D.getD (i / k) false || C.getD t false)]) (by simp) rfl (prot := H0.length) (fun id hh => by cases hh; omega)
  cases e3
  rw [show bll D = D.map Value.bool from rfl, put_map Value.bool D (by omega)] at s3
  have hpass : orP k xs C (d + 1) i D = orP k xs C d (i + 1) (D.set (i / k) (D.getD (i / k) false || C.getD t false)) := by
   simp only [orP]
   have : xs.getD i 0 = t := by rw [List.getD_eq_getElem?_getD, List.getElem?_eq_getElem hil, ht]; rfl
   rw [this, Int.toNat_natCast]
  have lb := (List.getElem?_eq_some_iff.1 hb).1
  have l3 := (List.getElem?_eq_some_iff.1 h3).1
  obtain ⟨H', u1, u2, u3, u4⟩ := loop45i hG (prot := prot) (p2 := p2) hm hC ho ho3 hlN hlv hL hLm d (i + 1) _ H2 (by omega) (by simp; omega) (by rw [s4.2 _ lb (fun hh => by cases hh; omega)]; exact hb) (hN.stayLow hlN s4 (fun id hh => by cases hh; omega))
   (by rw [s4.2 _ l3 (fun hh => by cases hh; omega)]; exact h3) (hv.stayLow hlv s4 (fun id hh => by cases hh; omega)) s3
  refine ⟨H', ?_, by rw [hpass]; exact u2, s4.trans u3, by omega⟩
  have hkz : (k : Int) ≠ 0 := by omega
  have hfit : Fit .i64 ((i : Int).tdiv (k : Int)) := by rw [etd]; exact fit64 (Int.le_trans (by decide) (Int.natCast_nonneg (i / k))) (Int.le_trans (Int.ofNat_le.2 (Nat.le_of_lt hs)) (by omega))
  have hfi : Fit .i64 ((i : Int) + 1) := fit64 (by omega) (by omega)
  rw [← etd] at p1 s1
  obtain ⟨a5, c5, rfl⟩ := w5.len
  obtain ⟨aN, cN, rfl⟩ := hN.len
  obtain ⟨av, cv, rfl⟩ := hv.len
  by_cases hw : D.getD (i / k) false = true
  ·rw [hw] at q1
   rw [hw, Bool.true_or] at s2
   exact lp_next (f45_L1_0 (by omega) n1 n2 g0 hkz hfit g0 hkz hfit p1 q1 rfl s1 rfl s2 hfi) u1
  ·have hw : D.getD (i / k) false = false := by simpa using hw
   rw [hw] at q1
   rw [hw, Bool.false_or] at s2
   exact lp_next (f45_L1_1 (by omega) n1 n2 g0 hkz hfit g0 hkz hfit p1 q1 rfl (by omega) (by omega) (arr_get h3 hL hLm) v1 v2 s1 rfl s2 hfi) u1

/-- A row that lies in neither array. -/
def RowB (b : Nat) (H : AHeap) (n : Nat) (v : Value) (C : List Bool) : Prop := Rd H 4 1 v n (bll C) ∧ ∀ id off L n' c, v = .slice (some ⟨id, off, some L⟩) n' c → id ≠ b + 1 ∧ id ≠ b + 2
theorem loop45o {k : Nat} {xs : List Int} {bs : List Bool} (hG : Good k xs bs) {H0 : AHeap} {prot : Nat} {vN vA : Value} {L2 : List Value} (hlN : Low H0.length vN) (hL2 : L2.length = 4097) : ∀ (d m : Nat) (L : List Value) (H : AHeap), m + d = 4096 → H0.length + 3 ≤ H.length →
  H[H0.length]? = some (bx k vN vA) → Rd H 3 1 vN xs.length (il xs) → Rd H 4 1 vA bs.length (bll bs) → H[H0.length + 1]? = some (.cells L2 72 4097 .var) → H[H0.length + 2]? = some (.cells L 72 4097 .var) → L.length = 4097 → L.all isCell = true → Low H0.length vA →
  (∀ j, j ≤ m → ∃ v, L[j]? = some v ∧ RowB H0.length H bs.length v (canL k xs bs j)) →
  ∃ L' H', lpInf (lpOf cfg a45 0 prot H0) ([.pointer (some ⟨H0.length, 0, some 3⟩), .pointer (some ⟨H0.length + 1, 0, some 4097⟩), .pointer (some ⟨H0.length + 2, 0, some 4097⟩), .int .i64 m], H) =
   some (.exit 0, [.pointer (some ⟨H0.length + 1, 0, some 4097⟩), .pointer (some ⟨H0.length + 2, 0, some 4097⟩)], H') ∧ H'[H0.length + 1]? = some (.cells L2 72 4097 .var) ∧ H'[H0.length + 2]? = some (.cells L' 72 4097 .var) ∧ L'.length = 4097 ∧ L'.all isCell = true ∧
   (∀ j, j ≤ 4096 → ∃ v, L'[j]? = some v ∧ RowB H0.length H' bs.length v (canL k xs bs j)) ∧ (∀ q, q < H0.length → H'[q]? = H[q]?) ∧ H.length ≤ H'.length
 | 0, m, L, H, hm, hH, hb, hN, hA, h2, h3, hL, hLc, hlA, hr => by
  exact ⟨L, H, lp_last (f45_L0_1 (by omega)), h2, h3, hL, hLc, fun j hj => hr j (by omega), fun _ _ => rfl, Nat.le_refl _⟩
 | d + 1, m, L, H, hm, hH, hb, hN, hA, h2, h3, hL, hLc, hlA, hr => by
  have hn1 := hG.n1
  have hn5 := hG.n5
  obtain ⟨v, hv, hvr, hvn⟩ := hr m (Nat.le_refl _)
  obtain ⟨HA, hHA⟩ : ∃ HA, HA = H ++ [AObj.cells (repCells [.bool false] bs.length) 4 (repCells [.bool false] bs.length).length .row] := ⟨_, rfl⟩
  have lA : HA.length = H.length + 1 := by rw [hHA]; simp
  have sA : Stay none H HA := by rw [hHA]; exact Stay.app none H _
  have m2 : Own HA 4 1 (.slice (some ⟨H.length, 0, some (bs.length * 1)⟩) bs.length bs.length) (some H.length) bs.length (bll (List.replicate bs.length false)) := by
   rw [hHA]
   have := own_make (e := 4) (fun _ => Value.bool false) hn1 H (.bool false) rfl
   have h2 : bll (List.replicate bs.length false) = (List.replicate bs.length 0).map (fun _ => Value.bool false) := by
    unfold bll
    rw [List.map_replicate, List.map_replicate]
   rw [h2]
   exact this
  have st : ∀ q o, H[q]? = some o → HA[q]? = some o := fun q o hq => by rw [sA.2 q (List.getElem?_eq_some_iff.1 hq).1 (by simp)]; exact hq
  obtain ⟨H2, u1, u2, u3, u4⟩ := loop45i hG (prot := prot) (p2 := H0.length + 1) (vA := vA) (show m < 4097 by omega) (canL_len k xs bs m) (show H0.length < H.length by omega) (show H0.length + 2 < H.length by omega) hlN hvr.low hL hv xs.length 0 (List.replicate bs.length false) HA (by omega) (by simp)
   (st _ _ hb) (hN.stay sA) (st _ _ h3) (hvr.stay sA) m2
  rw [canL_succ hG] at u2
  have st2 : ∀ q o, q < H.length → H[q]? = some o → H2[q]? = some o := fun q o hl hq => by rw [u3.2 q (by omega) (fun e => by cases e; omega)]; exact st q o hq
  have h3' := st2 _ _ (by omega) h3
  obtain ⟨H3, hH3⟩ : ∃ H3, H3 = H2.set (H0.length + 2) (.cells (L.set (m + 1) (.slice (some ⟨H.length, 0, some (bs.length * 1)⟩) bs.length bs.length)) 72 4097 .var) := ⟨_, rfl⟩
  have s3 : Stay (some (H0.length + 2)) H2 H3 := by rw [hH3]; exact set_stay
  have hset : setCells H2 H0.length (H0.length + 2) 4097 (0 + (m + 1) * 1) [.slice (some ⟨H.length, 0, some (bs.length * 1)⟩) bs.length bs.length] = some H3 := by rw [hH3]; exact arr_set h3' hL (by omega) (by omega) rfl
  have l3 : H3.length = H2.length := by rw [hH3]; simp
  have rowst : ∀ w C, RowB H0.length H bs.length w C → RowB H0.length H3 bs.length w C := fun w C ⟨hw, hn⟩ => by
   refine ⟨(((hw.stay sA).stayLow hw.low u3 (fun id hh => by cases hh; exact Nat.le_refl _))).stayNe s3 (fun id off L n c e h => ?_), hn⟩
   have := (hn id off L n c e).2
   cases h
   exact this rfl
  have hNf : ∀ (x : Value) (e n : Nat) (cs : List Value), Low H0.length x → Rd H e 1 x n cs → Rd H3 e 1 x n cs := fun x e n cs hl hx =>
   ((hx.stay sA).stayLow hl u3 (fun id hh => by cases hh; omega)).stayLow hl s3 (fun id hh => by cases hh; omega)
  have hidx : ∀ q o, q < H.length → q ≠ H0.length + 2 → H[q]? = some o → H3[q]? = some o := fun q o hl hne hq => by
   rw [s3.2 q (by omega) (fun e => by cases e; exact hne rfl)]; exact st2 q o hl hq
  have hLget : H3[H0.length + 2]? = some (.cells (L.set (m + 1) (.slice (some ⟨H.length, 0, some (bs.length * 1)⟩) bs.length bs.length)) 72 4097 .var) := by rw [hH3, List.getElem?_set_self (by omega)]
  obtain ⟨L', H', z1, z2, z3, z4, z5, z6, z7, z8⟩ := loop45o hG (prot := prot) hlN hL2 d (m + 1) (L.set (m + 1) (.slice (some ⟨H.length, 0, some (bs.length * 1)⟩) bs.length bs.length)) H3 (by omega) (by omega)
   (hidx _ _ (by omega) (by omega) hb) (hNf _ _ _ _ hlN hN) (hNf _ _ _ _ hlA hA) (hidx _ _ (by omega) (by omega) h2) hLget (by simp [hL]) (by
    rw [List.all_eq_true] at hLc ⊢
    intro x hx
    rcases List.mem_or_eq_of_mem_set hx with h | h
    ·exact hLc x h
    ·rw [h]; rfl) hlA (fun j hj => by
    by_cases he : j = m + 1
    ·subst he
     refine ⟨_, List.getElem?_set_self (by omega), (u2.stay s3 (fun id h1 h2 => by have := Option.some.inj h1; have := Option.some.inj h2; omega)).rd, fun id off L n' c e => ?_⟩
     cases e
     omega
    ·obtain ⟨w, hw, hwr⟩ := hr j (by omega)
     exact ⟨w, by rw [List.getElem?_set_ne (fun e => he e.symm)]; exact hw, rowst _ _ hwr⟩)
  refine ⟨L', H', ?_, z2, z3, z4, z5, z6, fun q hq => ?_, by omega⟩
  ·have hb2 := (fld3 hb).2.2.1
   obtain ⟨aA, cA, rfl⟩ := hA.len
   obtain ⟨aN, cN, rfl⟩ := hN.len
   have hN2 := (fld3 (st _ _ hb)).2.1
   subst hHA
   exact lp_next (f45_L0_0 (by omega) hb2 (by omega) rfl (by omega) (by omega) hN2 u1 (fit64 (by omega) (by omega)) (by omega) (by omega) rfl hset (fit64 (by omega) (by omega))) z1
  ·rw [z7 q hq, s3.2 q (by omega) (fun e => by cases e; omega), u3.2 q (by omega) (fun e => by cases e; omega), sA.2 q (by omega) (by simp)]

theorem c45 {k : Nat} {xs : List Int} {bs : List Bool} {vN vA : Value} (hG : Good k xs bs) (prot : Nat) (H : AHeap) (hA : IsA H xs bs vN vA) :
  ∃ (L : List Value) (H' : AHeap), callInf cfg 45 [av k vN vA] prot H = some (.agg L.toArray, H') ∧ L.length = 4097 ∧ L.all isCell = true ∧ (∀ m, m ≤ 4096 → ∃ v, L[m]? = some v ∧ Rd H' 4 1 v bs.length (bll (canL k xs bs m))) ∧ Stay none H H' := by
 have lN := hA.n.low
 have lA := hA.a.low
 obtain ⟨aN, cN, rfl⟩ := hA.n.len
 obtain ⟨aA, cA, rfl⟩ := hA.a.len
 have hn1 := hG.n1
 obtain ⟨HX, hHX⟩ : ∃ HX, HX = H ++ [bx k (.slice aN xs.length cN) (.slice aA bs.length cA)] := ⟨_, rfl⟩
 have lX : HX.length = H.length + 1 := by rw [hHX]; simp
 have sX : Stay none H HX := by rw [hHX]; exact Stay.app none H _
 obtain ⟨HB, hHB⟩ : ∃ HB, HB = HX ++ [AObj.cells (List.replicate 4097 (.slice none 0 0)) 72 4097 .var] := ⟨_, rfl⟩
 obtain ⟨HC, hHC⟩ : ∃ HC, HC = HB ++ [AObj.cells (List.replicate 4097 (.slice none 0 0)) 72 4097 .var] := ⟨_, rfl⟩
 have lB : HB.length = H.length + 2 := by rw [hHB, List.length_append, List.length_singleton]; omega
 have lC : HC.length = H.length + 3 := by rw [hHC, List.length_append, List.length_singleton]; omega
 have sB : Stay none HX HB := by rw [hHB]; exact Stay.app none HX _
 have sC : Stay none HB HC := by rw [hHC]; exact Stay.app none HB _
 have a1 : aalloc cfg.P 72 HX = some (.pointer (some ⟨H.length + 1, 0, some 4097⟩), HB) := by rw [hHB, ← lX]; exact alloc_arr z72 rfl HX
 have a2 : aalloc cfg.P 72 HB = some (.pointer (some ⟨H.length + 2, 0, some 4097⟩), HC) := by rw [hHC, ← lB]; exact alloc_arr z72 rfl HB
 have gX : HC[H.length]? = some (bx k (.slice aN xs.length cN) (.slice aA bs.length cA)) := by
  rw [sC.2 _ (by omega) (by simp), sB.2 _ (by omega) (by simp), hHX]; exact append_get.1
 have gB : HC[H.length + 1]? = some (.cells (List.replicate 4097 (.slice none 0 0)) 72 4097 .var) := by
  rw [sC.2 _ (by omega) (by simp), hHB, ← lX]; exact append_get.1
 have gC : HC[H.length + 2]? = some (.cells (List.replicate 4097 (.slice none 0 0)) 72 4097 .var) := by rw [hHC, ← lB]; exact append_get.1
 obtain ⟨HD, hHD⟩ : ∃ HD, HD = HC.set (H.length + 2) (.cells ((List.replicate 4097 (Value.slice none 0 0)).set 0 (.slice aA bs.length cA)) 72 4097 .var) := ⟨_, rfl⟩
 have sD : Stay (some (H.length + 2)) HC HD := by rw [hHD]; exact set_stay
 have lD : HD.length = H.length + 3 := by rw [hHD, List.length_set, lC]
 have hset : setCells HC H.length (H.length + 2) 4097 (0 + 0 * 1) [.slice aA bs.length cA] = some HD := by rw [hHD]; exact arr_set gC List.length_replicate (by omega) (by omega) rfl
 have sAll := (sX.trans sB).trans sC
 have fr : ∀ (x : Value) (e n : Nat) (cs : List Value), Low H.length x → Rd H e 1 x n cs → Rd HD e 1 x n cs := fun x e n cs hl hx => (hx.stay sAll).stayLow hl sD (fun id hh => by cases hh; omega)
 have hrows : ∀ j, j ≤ 0 → ∃ v, ((List.replicate 4097 (Value.slice none 0 0)).set 0 (.slice aA bs.length cA))[j]? = some v ∧ RowB H.length HD bs.length v (canL k xs bs j) := fun j hj => by
  obtain rfl : j = 0 := by omega
  refine ⟨_, List.getElem?_set_self (by rw [List.length_replicate]; omega), by rw [canL_zero]; exact fr _ _ _ _ lA hA.a, fun id off L n' c e => ?_⟩
  have := lA id off L n' c e
  omega
 obtain ⟨L', H4, z1, z2, z3, z4, z5, z6, z7, z8⟩ := loop45o hG (prot := prot) (vA := .slice aA bs.length cA) lN List.length_replicate 4096 0 _ HD (by omega) (by omega)
  (by rw [sD.2 _ (by omega) (fun e => by have := Option.some.inj e; omega)]; exact gX) (fr _ _ _ _ lN hA.n) (fr _ _ _ _ lA hA.a) (by rw [sD.2 _ (by omega) (fun e => by have := Option.some.inj e; omega)]; exact gB) (by rw [hHD, List.getElem?_set_self (by omega)]) (by rw [List.length_set, List.length_replicate]) (by
   rw [List.all_eq_true]
   intro x hx
   rcases List.mem_or_eq_of_mem_set hx with h | h
   ·rw [List.mem_replicate] at h; rw [h.2]; rfl
   ·rw [h]; rfl) lA hrows
 obtain ⟨H5, hH5⟩ : ∃ H5, H5 = H4.set (H.length + 1) (.cells L' 72 4097 .var) := ⟨_, rfl⟩
 have s5 : Stay (some (H.length + 1)) H4 H5 := by rw [hH5]; exact set_stay
 have hput : setCells H4 H.length (H.length + 1) 4097 0 L' = some H5 := by rw [hH5]; exact arr_put z2 List.length_replicate (by omega) z4 z5
 have g5 : H5[H.length + 1]? = some (.cells L' 72 4097 .var) := by rw [hH5, List.getElem?_set_self (List.getElem?_eq_some_iff.1 z2).1]
 have hlen5 : H5.length = H4.length := by rw [hH5]; simp
 refine ⟨L', H5, ?_, z4, z5, fun m hm => ?_, ⟨by omega, fun q hq _ => ?_⟩⟩
 ·have hne : plain1 (.agg L'.toArray) = false := by
   obtain ⟨v, hv, hvr, _⟩ := z6 0 (by omega)
   have hv0 : plain0 v = false := by
    rcases hvr.2 with ⟨h, _⟩ | ⟨id, L, wr, md, c, all, h, _⟩
    ·omega
    ·rw [h]; rfl
   have : L'.all plain0 = false := by
    rw [List.all_eq_false]
    exact ⟨v, List.mem_of_getElem? hv, by rw [hv0]; simp⟩
   simpa [plain1] using this
  have gX2 := (fld3 gX).2.2.1
  subst hHX
  exact f45_F_0 (x53 := L'.toArray) (w := L'.toArray) _ _ all3 a1 a2 gX2 (by omega) (by omega) rfl hset z1 (arr_all z3 z4) (by simpa using z4) hput (arr_all g5 z4) (pfin_agg rfl hne)
 ·obtain ⟨v, hv, hvr, hvn⟩ := z6 m hm
  refine ⟨v, hv, hvr.stayNe s5 (fun id off L n c e h => ?_)⟩
  have := (hvn id off L n c e).1
  cases h
  exact this rfl
 ·rw [s5.2 q (by omega) (fun e => by have := Option.some.inj e; omega), z7 q hq, sD.2 q (by omega) (fun e => by have := Option.some.inj e; omega), sAll.2 q hq (by simp)]

/-- What the closure answers. -/
theorem c46 {k : Nat} {xs : List Int} {bs : List Bool} {p s m : Nat} {L : List Value} {H : AHeap} {md : OMode} (prot : Nat) (hp : H[p]? = some (.cells L 72 4097 md)) (hL : L.length = 4097) (hr : ∃ v, L[m]? = some v ∧ Rd H 4 1 v bs.length (bll (canL k xs bs m))) (hs : s < bs.length) (hm : m ≤ 4096) :
  callInf cfg 46 [.int .i64 s, .int .i64 m, .pointer (some ⟨p, 0, some 4097⟩)] prot H = some (.bool (canB k (tgt k xs) (accB bs) m s), H) := by
 obtain ⟨v, hv, hvr⟩ := hr
 have h1 : (bll (canL k xs bs m))[s]? = some (.bool ((canL k xs bs m).getD s false)) := bl_at (show s < (canL k xs bs m).length by rw [canL_len]; exact hs)
 rw [canL_get hs] at h1
 obtain ⟨id, L', a1, a2⟩ := rd_at T23 hvr h1
 obtain ⟨av, cv, rfl⟩ := hvr.len
 exact f46_F_0 (by omega) (by omega) (arr_get hp hL hv) a1 a2
end Go.Proofs.Ythjkodbinkiifaa.Am23
set_option linter.unusedVariables false
open Go Go.Proofs.Ythjkodbinkiifaa.Am
namespace Go.Proofs.Ythjkodbinkiifaa.Am23
section
variable {x0a x2 x4 x16 x137 z2 z4 z17 x78 x99 x101 x106 x17 x47 x58 x60 x65 : Int}
variable {x0ba x0ca x5a z5a z12a x13a x14a x43a x145a x150a z13a z14a x93a x108a x114a x52a : Option Addr}
variable {x0bn x0bc x0cn x0cc x1ap x1ao x1al x5n x5c prot z5n z5c z12n z12c x6p x6o x6l x13n x13c x14n x14c x43n x43c x136p x136o x136l x145n x145c x150n x150c z1ap z1ao z1al z6p z6o z6l z13n z13c z14n z14c x93n x93c x98p x98o x98l x105p x105o x105l x108n x108c x114n x114c x52n x52c x57p x57o x57l x64p x64o x64l : Nat}
variable {x3 x41 z3 : ByteArray}
variable {H H1 H2 H0 H3 H4 : AHeap}
variable {x23 x15 z15 x71 : Bool}
variable {z12 z5 : Value}
theorem f47_F_0 (h1 : [vI x0a, vS x0ba x0bn x0bc, vS x0ca x0cn x0cc].all isCell = true) (h2 : cI 46 [vI 0, vI x2, vP x1ap x1ao x1al] prot (H ++ [vo [vI x0a, vS x0ba x0bn x0bc, vS x0ca x0cn x0cc] 25] ++ [wo [vI 0] 3]) = some (Value.bool x23, H1)) (h3 : (!x23) = false) (h4 : (!x3.toList == []) = true) (h5 : (0 : Int) ≤ 0) (h6 : 0 < (↑x3.size : Int)) (h7 : Fit .i64 (IntKind.u8.wrap ((↑(x3.get! (Int.toNat 0)).toNat : Int) - 97))) (h8 : lI a47 0 prot H ([Value.func (Fn.func 46) #[] #[vP x1ap x1ao x1al], vI x2, Value.string x3, vI x4, vS x5a x5n x5c, vP H.length 0 3, vS (some ⟨List.length (H ++ [vo [vI x0a, vS x0ba x0bn x0bc, vS x0ca x0cn x0cc] 25]), 0, some (1 * 1)⟩) 1 1, vS none 0 0, Value.bool !x3.toList == [], vI (IntKind.u8.wrap ((↑(x3.get! (Int.toNat 0)).toNat : Int) - 97))], H1) = some (Ex.exit 0, [vS z5a z5n z5c, z12], H2)) : callInf cfg 47 [.agg #[.int .i64 x0a, .slice x0ba x0bn x0bc, .slice x0ca x0cn x0cc], .func (.func 46) #[] #[.pointer (some ⟨x1ap, x1ao, some x1al⟩)], .int .i64 x2, .string x3, .int .i64 x4, .slice x5a x5n x5c] prot H = some (Value.slice z5a z5n z5c, H2) :=
 fn_of2 a47 [.e, .e, .e, .r (.bool x23) H1, .e, .b false, .b true, .e, .e, .e, .lo (.exit 0, [vS z5a z5n z5c, z12], H2)] (ai h1 (ai h2 (ai h3 (ai h4 (ai h5 (ai h6 (ai h7 (ai h8 (Eq.refl ((vS z5a z5n z5c, H2) : Value × AHeap)))))))))) (by kernel_rfl) rfl
theorem f47_F_1 (h1 : [vI x0a, vS x0ba x0bn x0bc, vS x0ca x0cn x0cc].all isCell = true) (h2 : cI 46 [vI 0, vI x2, vP x1ap x1ao x1al] prot (H ++ [vo [vI x0a, vS x0ba x0bn x0bc, vS x0ca x0cn x0cc] 25] ++ [wo [vI 0] 3]) = some (Value.bool x23, H1)) (h3 : (!x23) = false) (h4 : (!x3.toList == []) = true) (h5 : (0 : Int) ≤ 0) (h6 : 0 < (↑x3.size : Int)) (h7 : Fit .i64 (IntKind.u8.wrap ((↑(x3.get! (Int.toNat 0)).toNat : Int) - 97))) (h8 : lI a47 0 prot H ([Value.func (Fn.func 46) #[] #[vP x1ap x1ao x1al], vI x2, Value.string x3, vI x4, vS x5a x5n x5c, vP H.length 0 3, vS (some ⟨List.length (H ++ [vo [vI x0a, vS x0ba x0bn x0bc, vS x0ca x0cn x0cc] 25]), 0, some (1 * 1)⟩) 1 1, vS none 0 0, Value.bool !x3.toList == [], vI (IntKind.u8.wrap ((↑(x3.get! (Int.toNat 0)).toNat : Int) - 97))], H1) = some (Ex.ret, [z5, vS z12a z12n z12c], H2)) : callInf cfg 47 [.agg #[.int .i64 x0a, .slice x0ba x0bn x0bc, .slice x0ca x0cn x0cc], .func (.func 46) #[] #[.pointer (some ⟨x1ap, x1ao, some x1al⟩)], .int .i64 x2, .string x3, .int .i64 x4, .slice x5a x5n x5c] prot H = some (Value.slice z12a z12n z12c, H2) :=
 fn_of2 a47 [.e, .e, .e, .r (.bool x23) H1, .e, .b false, .b true, .e, .e, .e, .lo (.ret, [z5, vS z12a z12n z12c], H2)] (ai h1 (ai h2 (ai h3 (ai h4 (ai h5 (ai h6 (ai h7 (ai h8 (Eq.refl ((vS z12a z12n z12c, H2) : Value × AHeap)))))))))) (by kernel_rfl) rfl
theorem f47_F_2 (h1 : [vI x0a, vS x0ba x0bn x0bc, vS x0ca x0cn x0cc].all isCell = true) (h2 : cI 46 [vI 0, vI x2, vP x1ap x1ao x1al] prot (H ++ [vo [vI x0a, vS x0ba x0bn x0bc, vS x0ca x0cn x0cc] 25] ++ [wo [vI 0] 3]) = some (Value.bool x23, H1)) (h3 : (!x23) = false) (h4 : (!x3.toList == []) = false) (h5 : lI a47 0 prot H ([Value.func (Fn.func 46) #[] #[vP x1ap x1ao x1al], vI x2, Value.string x3, vI x4, vS x5a x5n x5c, vP H.length 0 3, vS (some ⟨List.length (H ++ [vo [vI x0a, vS x0ba x0bn x0bc, vS x0ca x0cn x0cc] 25]), 0, some (1 * 1)⟩) 1 1, vS none 0 0, Value.bool !x3.toList == [], vI 0], H1) = some (Ex.exit 0, [vS z5a z5n z5c, z12], H2)) : callInf cfg 47 [.agg #[.int .i64 x0a, .slice x0ba x0bn x0bc, .slice x0ca x0cn x0cc], .func (.func 46) #[] #[.pointer (some ⟨x1ap, x1ao, some x1al⟩)], .int .i64 x2, .string x3, .int .i64 x4, .slice x5a x5n x5c] prot H = some (Value.slice z5a z5n z5c, H2) :=
 fn_of2 a47 [.e, .e, .e, .r (.bool x23) H1, .e, .b false, .b false, .lo (.exit 0, [vS z5a z5n z5c, z12], H2)] (ai h1 (ai h2 (ai h3 (ai h4 (ai h5 (Eq.refl ((vS z5a z5n z5c, H2) : Value × AHeap))))))) (by kernel_rfl) rfl
theorem f47_F_3 (h1 : [vI x0a, vS x0ba x0bn x0bc, vS x0ca x0cn x0cc].all isCell = true) (h2 : cI 46 [vI 0, vI x2, vP x1ap x1ao x1al] prot (H ++ [vo [vI x0a, vS x0ba x0bn x0bc, vS x0ca x0cn x0cc] 25] ++ [wo [vI 0] 3]) = some (Value.bool x23, H1)) (h3 : (!x23) = false) (h4 : (!x3.toList == []) = false) (h5 : lI a47 0 prot H ([Value.func (Fn.func 46) #[] #[vP x1ap x1ao x1al], vI x2, Value.string x3, vI x4, vS x5a x5n x5c, vP H.length 0 3, vS (some ⟨List.length (H ++ [vo [vI x0a, vS x0ba x0bn x0bc, vS x0ca x0cn x0cc] 25]), 0, some (1 * 1)⟩) 1 1, vS none 0 0, Value.bool !x3.toList == [], vI 0], H1) = some (Ex.ret, [z5, vS z12a z12n z12c], H2)) : callInf cfg 47 [.agg #[.int .i64 x0a, .slice x0ba x0bn x0bc, .slice x0ca x0cn x0cc], .func (.func 46) #[] #[.pointer (some ⟨x1ap, x1ao, some x1al⟩)], .int .i64 x2, .string x3, .int .i64 x4, .slice x5a x5n x5c] prot H = some (Value.slice z12a z12n z12c, H2) :=
 fn_of2 a47 [.e, .e, .e, .r (.bool x23) H1, .e, .b false, .b false, .lo (.ret, [z5, vS z12a z12n z12c], H2)] (ai h1 (ai h2 (ai h3 (ai h4 (ai h5 (Eq.refl ((vS z12a z12n z12c, H2) : Value × AHeap))))))) (by kernel_rfl) rfl
theorem f47_F_4 (h1 : [vI x0a, vS x0ba x0bn x0bc, vS x0ca x0cn x0cc].all isCell = true) (h2 : cI 46 [vI 0, vI x2, vP x1ap x1ao x1al] prot (H ++ [vo [vI x0a, vS x0ba x0bn x0bc, vS x0ca x0cn x0cc] 25] ++ [wo [vI 0] 3]) = some (Value.bool x23, H1)) (h3 : (!x23) = true) : callInf cfg 47 [.agg #[.int .i64 x0a, .slice x0ba x0bn x0bc, .slice x0ca x0cn x0cc], .func (.func 46) #[] #[.pointer (some ⟨x1ap, x1ao, some x1al⟩)], .int .i64 x2, .string x3, .int .i64 x4, .slice x5a x5n x5c] prot H = some (Value.slice x5a x5n x5c, H1) :=
 fn_of2 a47 [.e, .e, .e, .r (.bool x23) H1, .e, .b true] (ai h1 (ai h2 (ai h3 (Eq.refl ((vS x5a x5n x5c, H1) : Value × AHeap))))) (by kernel_rfl) rfl
theorem f47_L0_0 (h1 : (↑x5n : Int) < x4) (h2 : ((↑x14n : Int) == x2) = true) (h3 : aconv cfg.P 104 9 (vS x14a x14n x14c) H = some (Value.string x41)) (h4 : aappend cfg.P prot true 43 43 (vS x5a x5n x5c) (vS (some ⟨H.length, 0, some (1 * 1)⟩) 1 1) (H ++ [wo [Value.string x41] 9]) = some (vS x43a x43n x43c, H2)) (h5 : ((↑x14n : Int) == 0) = true) : lpOf cfg a47 0 prot H0 ([.func (.func 46) #[] #[.pointer (some ⟨x1ap, x1ao, some x1al⟩)], .int .i64 x2, .string x3, .int .i64 x4, .slice x5a x5n x5c, .pointer (some ⟨x6p, x6o, some x6l⟩), .slice x13a x13n x13c, .slice x14a x14n x14c, .bool x15, .int .i64 x16], H) = some (Sum.inr (Ex.ret, [Value.slice x43a x43n x43c, Value.slice x43a x43n x43c], H2)) :=
 lp_of2 [.e, .e, .b true, .e, .e, .b true, .v (.string x41), .e, .r (vS x43a x43n x43c) H2, .e, .e, .b true] (ai (decide_eq_true h1) (ai h2 (ai h3 (ai h4 (ai h5 (Eq.refl (Sum.inr (Ex.ret, [vS x43a x43n x43c, vS x43a x43n x43c], H2) : LS ⊕ LO))))))) (by kernel_rfl)
theorem f47_L0_1 (h1 : (↑x5n : Int) < x4) (h2 : ((↑x14n : Int) == x2) = true) (h3 : aconv cfg.P 104 9 (vS x14a x14n x14c) H = some (Value.string x41)) (h4 : aappend cfg.P prot true 43 43 (vS x5a x5n x5c) (vS (some ⟨H.length, 0, some (1 * 1)⟩) 1 1) (H ++ [wo [Value.string x41] 9]) = some (vS x43a x43n x43c, H2)) (h5 : ((↑x14n : Int) == 0) = false) (h6 : Fit .i64 ((↑x14n : Int) - 1)) (h7 : aX 104 (vS x14a x14n x14c) (vI ((↑x14n : Int) - 1)) = some (vP x136p x136o x136l)) (h8 : getCells H2 x136p x136l x136o 1 = some [Value.int .u8 x137]) (h9 : Fit .i64 (IntKind.u8.wrap (x137 - 97))) (h10 : Fit .i64 (IntKind.u8.wrap (x137 - 97) + 1)) (h11 : aslice cfg.P 104 (vS x14a x14n x14c) none (some (vI ((↑x14n : Int) - 1))) none H2 = some (vS x145a x145n x145c)) (h12 : Fit .i64 ((↑x13n : Int) - 1)) (h13 : aslice cfg.P 22 (vS x13a x13n x13c) none (some (vI ((↑x13n : Int) - 1))) none H2 = some (vS x150a x150n x150c)) : lpOf cfg a47 0 prot H0 ([.func (.func 46) #[] #[.pointer (some ⟨x1ap, x1ao, some x1al⟩)], .int .i64 x2, .string x3, .int .i64 x4, .slice x5a x5n x5c, .pointer (some ⟨x6p, x6o, some x6l⟩), .slice x13a x13n x13c, .slice x14a x14n x14c, .bool x15, .int .i64 x16], H) = some (Sum.inl ([Value.func (Fn.func 46) { toList := [] } { toList := [Value.pointer (some ⟨x1ap, x1ao, some x1al⟩)] }, Value.int .i64 x2, Value.string x3, Value.int .i64 x4, Value.slice x43a x43n x43c, Value.pointer (some ⟨x6p, x6o, some x6l⟩), Value.slice x150a x150n x150c, Value.slice x145a x145n x145c, Value.bool false, Value.int .i64 (IntKind.u8.wrap (x137 - 97) + 1)], H2)) :=
 lp_of2 [.e, .e, .b true, .e, .e, .b true, .v (.string x41), .e, .r (vS x43a x43n x43c) H2, .e, .e, .b false, .e, .e, .v (vP x136p x136o x136l), .v (.int .u8 x137), .e, .e, .e, .e, .e, .v (vS x145a x145n x145c), .e, .e, .v (vS x150a x150n x150c)] (ai (decide_eq_true h1) (ai h2 (ai h3 (ai h4 (ai h5 (ai h6 (ai h7 (ai h8 (ai h9 (ai h10 (ai h6 (ai h11 (ai h12 (ai h13 (Eq.refl (Sum.inl ([Value.func (Fn.func 46) #[] #[vP x1ap x1ao x1al], vI x2, Value.string x3, vI x4, vS x43a x43n x43c, vP x6p x6o x6l, vS x150a x150n x150c, vS x145a x145n x145c, Value.bool false, vI (IntKind.u8.wrap (x137 - 97) + 1)], H2) : LS ⊕ LO)))))))))))))))) (by kernel_rfl)
theorem f47_L0_2 (h1 : (↑x5n : Int) < x4) (h2 : ((↑x14n : Int) == x2) = false) (h3 : lI a47 1 prot H0 ([Value.func (Fn.func 46) #[] #[vP x1ap x1ao x1al], vI x2, Value.string x3, vI x4, vS x5a x5n x5c, vP x6p x6o x6l, vS x13a x13n x13c, vS x14a x14n x14c, Value.bool x15, vI x16], H) = some (Ex.exit 2, [Value.func (Fn.func 46) #[] #[vP z1ap z1ao z1al], vI z2, Value.string z3, vI z4, vS z5a z5n z5c, vP z6p z6o z6l, vS z13a z13n z13c, vS z14a z14n z14c, Value.bool z15, vI z17], H2)) (h4 : getCells H2 z6p z6l (z6o + 0) 1 = some [vI x78]) (h5 : z17 < x78) (h6 : z15 = true) (h7 : 0 ≤ (↑z14n : Int)) (h8 : (↑z14n : Int) < (↑z3.size : Int)) (h9 : Fit .i64 (IntKind.u8.wrap ((↑(z3.get! (↑z14n : Int).toNat).toNat : Int) - 97))) (h10 : getCells H2 z6p z6l (z6o + 1) 1 = some [vS x93a x93n x93c]) (h11 : Fit .i64 ((↑z13n : Int) - 1)) (h12 : aX 22 (vS z13a z13n z13c) (vI ((↑z13n : Int) - 1)) = some (vP x98p x98o x98l)) (h13 : getCells H2 x98p x98l x98o 1 = some [vI x99]) (h14 : getCells H2 z6p z6l (z6o + 0) 1 = some [vI x101]) (h15 : Fit .i64 (x99 * x101)) (h16 : Fit .i64 (x99 * x101 + z17)) (h17 : aX 22 (vS x93a x93n x93c) (vI (x99 * x101 + z17)) = some (vP x105p x105o x105l)) (h18 : getCells H2 x105p x105l x105o 1 = some [vI x106]) (h19 : aappend cfg.P prot true 22 22 (vS z13a z13n z13c) (vS (some ⟨H2.length, 0, some (1 * 1)⟩) 1 1) (H2 ++ [wo [vI x106] 3]) = some (vS x108a x108n x108c, H3)) (h20 : Fit .i64 (97 + z17)) (h21 : aappend cfg.P prot true 104 104 (vS z14a z14n z14c) (vS (some ⟨H3.length, 0, some (1 * 1)⟩) 1 1) (H3 ++ [wo [Value.int .u8 (IntKind.u8.wrap (97 + z17))] 5]) = some (vS x114a x114n x114c, H4)) (h22 : (z17 == IntKind.u8.wrap ((↑(z3.get! (↑z14n : Int).toNat).toNat : Int) - 97)) = true) (h23 : (↑x114n : Int) < z2) (h24 : 0 ≤ (↑x114n : Int)) (h25 : (↑x114n : Int) < (↑z3.size : Int)) (h26 : Fit .i64 (IntKind.u8.wrap ((↑(z3.get! (↑x114n : Int).toNat).toNat : Int) - 97))) : lpOf cfg a47 0 prot H0 ([.func (.func 46) #[] #[.pointer (some ⟨x1ap, x1ao, some x1al⟩)], .int .i64 x2, .string x3, .int .i64 x4, .slice x5a x5n x5c, .pointer (some ⟨x6p, x6o, some x6l⟩), .slice x13a x13n x13c, .slice x14a x14n x14c, .bool x15, .int .i64 x16], H) = some (Sum.inl ([Value.func (Fn.func 46) { toList := [] } { toList := [Value.pointer (some ⟨z1ap, z1ao, some z1al⟩)] }, Value.int .i64 z2, Value.string z3, Value.int .i64 z4, Value.slice z5a z5n z5c, Value.pointer (some ⟨z6p, z6o, some z6l⟩), Value.slice x108a x108n x108c, Value.slice x114a x114n x114c, Value.bool (z17 == IntKind.u8.wrap ((↑(z3.get! (↑z14n : Int).toNat).toNat : Int) - 97)), Value.int .i64 (IntKind.u8.wrap ((↑(z3.get! (↑x114n : Int).toNat).toNat : Int) - 97))], H4)) :=
 lp_of2 [.e, .e, .b true, .e, .e, .b false, .lo (.exit 2, [.func (.func 46) #[] #[vP z1ap z1ao z1al], vI z2, .string z3, vI z4, vS z5a z5n z5c, vP z6p z6o z6l, vS z13a z13n z13c, vS z14a z14n z14c, .bool z15, vI z17], H2), .v (vI x78), .e, .b true, .b true, .b true, .b true, .b true, .e, .b true, .e, .b true, .e, .b true, .e, .b true, .e, .b true, .v (vS x93a x93n x93c), .e, .e, .v (vP x98p x98o x98l), .v (vI x99), .v (vI x101), .e, .e, .v (vP x105p x105o x105l), .v (vI x106), .e, .r (vS x108a x108n x108c) H3, .e, .e, .e, .r (vS x114a x114n x114c) H4, .b true, .b true, .e, .b true, .b true, .e, .b true, .b true, .e, .e, .e, .e] (ai (decide_eq_true h1) (ai h2 (ai h3 (ai h4 (ai (decide_eq_true h5) (ai h6 (ai h6 (ai h6 (ai h6 (ai h6 (ai h7 (ai h8 (ai h6 (ai h6 (ai h9 (ai h6 (ai h6 (ai h10 (ai h11 (ai h12 (ai h13 (ai h14 (ai h15 (ai h16 (ai h17 (ai h18 (ai h19 (ai h20 (ai h21 (ai h22 (ai h22 (ai h22 (ai h22 (ai h22 (ai (decide_eq_true h23) (ai h24 (ai h25 (ai h26 (Eq.refl (Sum.inl ([Value.func (Fn.func 46) #[] #[vP z1ap z1ao z1al], vI z2, Value.string z3, vI z4, vS z5a z5n z5c, vP z6p z6o z6l, vS x108a x108n x108c, vS x114a x114n x114c, Value.bool (z17 == IntKind.u8.wrap ((↑(z3.get! (↑z14n : Int).toNat).toNat : Int) - 97)), vI (IntKind.u8.wrap ((↑(z3.get! (↑x114n : Int).toNat).toNat : Int) - 97))], H4) : LS ⊕ LO)))))))))))))))))))))))))))))))))))))))) (by kernel_rfl)
theorem f47_L0_3 (h1 : (↑x5n : Int) < x4) (h2 : ((↑x14n : Int) == x2) = false) (h3 : lI a47 1 prot H0 ([Value.func (Fn.func 46) #[] #[vP x1ap x1ao x1al], vI x2, Value.string x3, vI x4, vS x5a x5n x5c, vP x6p x6o x6l, vS x13a x13n x13c, vS x14a x14n x14c, Value.bool x15, vI x16], H) = some (Ex.exit 2, [Value.func (Fn.func 46) #[] #[vP z1ap z1ao z1al], vI z2, Value.string z3, vI z4, vS z5a z5n z5c, vP z6p z6o z6l, vS z13a z13n z13c, vS z14a z14n z14c, Value.bool z15, vI z17], H2)) (h4 : getCells H2 z6p z6l (z6o + 0) 1 = some [vI x78]) (h5 : z17 < x78) (h6 : z15 = true) (h7 : 0 ≤ (↑z14n : Int)) (h8 : (↑z14n : Int) < (↑z3.size : Int)) (h9 : Fit .i64 (IntKind.u8.wrap ((↑(z3.get! (↑z14n : Int).toNat).toNat : Int) - 97))) (h10 : getCells H2 z6p z6l (z6o + 1) 1 = some [vS x93a x93n x93c]) (h11 : Fit .i64 ((↑z13n : Int) - 1)) (h12 : aX 22 (vS z13a z13n z13c) (vI ((↑z13n : Int) - 1)) = some (vP x98p x98o x98l)) (h13 : getCells H2 x98p x98l x98o 1 = some [vI x99]) (h14 : getCells H2 z6p z6l (z6o + 0) 1 = some [vI x101]) (h15 : Fit .i64 (x99 * x101)) (h16 : Fit .i64 (x99 * x101 + z17)) (h17 : aX 22 (vS x93a x93n x93c) (vI (x99 * x101 + z17)) = some (vP x105p x105o x105l)) (h18 : getCells H2 x105p x105l x105o 1 = some [vI x106]) (h19 : aappend cfg.P prot true 22 22 (vS z13a z13n z13c) (vS (some ⟨H2.length, 0, some (1 * 1)⟩) 1 1) (H2 ++ [wo [vI x106] 3]) = some (vS x108a x108n x108c, H3)) (h20 : Fit .i64 (97 + z17)) (h21 : aappend cfg.P prot true 104 104 (vS z14a z14n z14c) (vS (some ⟨H3.length, 0, some (1 * 1)⟩) 1 1) (H3 ++ [wo [Value.int .u8 (IntKind.u8.wrap (97 + z17))] 5]) = some (vS x114a x114n x114c, H4)) (h22 : (z17 == IntKind.u8.wrap ((↑(z3.get! (↑z14n : Int).toNat).toNat : Int) - 97)) = true) (h23 : ¬((↑x114n : Int) < z2)) : lpOf cfg a47 0 prot H0 ([.func (.func 46) #[] #[.pointer (some ⟨x1ap, x1ao, some x1al⟩)], .int .i64 x2, .string x3, .int .i64 x4, .slice x5a x5n x5c, .pointer (some ⟨x6p, x6o, some x6l⟩), .slice x13a x13n x13c, .slice x14a x14n x14c, .bool x15, .int .i64 x16], H) = some (Sum.inl ([Value.func (Fn.func 46) { toList := [] } { toList := [Value.pointer (some ⟨z1ap, z1ao, some z1al⟩)] }, Value.int .i64 z2, Value.string z3, Value.int .i64 z4, Value.slice z5a z5n z5c, Value.pointer (some ⟨z6p, z6o, some z6l⟩), Value.slice x108a x108n x108c, Value.slice x114a x114n x114c, Value.bool (z17 == IntKind.u8.wrap ((↑(z3.get! (↑z14n : Int).toNat).toNat : Int) - 97)), Value.int .i64 0], H4)) :=
 lp_of2 [.e, .e, .b true, .e, .e, .b false, .lo (.exit 2, [.func (.func 46) #[] #[vP z1ap z1ao z1al], vI z2, .string z3, vI z4, vS z5a z5n z5c, vP z6p z6o z6l, vS z13a z13n z13c, vS z14a z14n z14c, .bool z15, vI z17], H2), .v (vI x78), .e, .b true, .b true, .b true, .b true, .b true, .e, .b true, .e, .b true, .e, .b true, .e, .b true, .e, .b true, .v (vS x93a x93n x93c), .e, .e, .v (vP x98p x98o x98l), .v (vI x99), .v (vI x101), .e, .e, .v (vP x105p x105o x105l), .v (vI x106), .e, .r (vS x108a x108n x108c) H3, .e, .e, .e, .r (vS x114a x114n x114c) H4, .b true, .b true, .e, .b true, .b true, .e, .b true, .b false] (ai (decide_eq_true h1) (ai h2 (ai h3 (ai h4 (ai (decide_eq_true h5) (ai h6 (ai h6 (ai h6 (ai h6 (ai h6 (ai h7 (ai h8 (ai h6 (ai h6 (ai h9 (ai h6 (ai h6 (ai h10 (ai h11 (ai h12 (ai h13 (ai h14 (ai h15 (ai h16 (ai h17 (ai h18 (ai h19 (ai h20 (ai h21 (ai h22 (ai h22 (ai h22 (ai h22 (ai h22 (ai (decide_eq_false h23) (Eq.refl (Sum.inl ([Value.func (Fn.func 46) #[] #[vP z1ap z1ao z1al], vI z2, Value.string z3, vI z4, vS z5a z5n z5c, vP z6p z6o z6l, vS x108a x108n x108c, vS x114a x114n x114c, Value.bool (z17 == IntKind.u8.wrap ((↑(z3.get! (↑z14n : Int).toNat).toNat : Int) - 97)), vI 0], H4) : LS ⊕ LO))))))))))))))))))))))))))))))))))))) (by kernel_rfl)
theorem f47_L0_4 (h1 : (↑x5n : Int) < x4) (h2 : ((↑x14n : Int) == x2) = false) (h3 : lI a47 1 prot H0 ([Value.func (Fn.func 46) #[] #[vP x1ap x1ao x1al], vI x2, Value.string x3, vI x4, vS x5a x5n x5c, vP x6p x6o x6l, vS x13a x13n x13c, vS x14a x14n x14c, Value.bool x15, vI x16], H) = some (Ex.exit 2, [Value.func (Fn.func 46) #[] #[vP z1ap z1ao z1al], vI z2, Value.string z3, vI z4, vS z5a z5n z5c, vP z6p z6o z6l, vS z13a z13n z13c, vS z14a z14n z14c, Value.bool z15, vI z17], H2)) (h4 : getCells H2 z6p z6l (z6o + 0) 1 = some [vI x78]) (h5 : z17 < x78) (h6 : z15 = true) (h7 : 0 ≤ (↑z14n : Int)) (h8 : (↑z14n : Int) < (↑z3.size : Int)) (h9 : Fit .i64 (IntKind.u8.wrap ((↑(z3.get! (↑z14n : Int).toNat).toNat : Int) - 97))) (h10 : getCells H2 z6p z6l (z6o + 1) 1 = some [vS x93a x93n x93c]) (h11 : Fit .i64 ((↑z13n : Int) - 1)) (h12 : aX 22 (vS z13a z13n z13c) (vI ((↑z13n : Int) - 1)) = some (vP x98p x98o x98l)) (h13 : getCells H2 x98p x98l x98o 1 = some [vI x99]) (h14 : getCells H2 z6p z6l (z6o + 0) 1 = some [vI x101]) (h15 : Fit .i64 (x99 * x101)) (h16 : Fit .i64 (x99 * x101 + z17)) (h17 : aX 22 (vS x93a x93n x93c) (vI (x99 * x101 + z17)) = some (vP x105p x105o x105l)) (h18 : getCells H2 x105p x105l x105o 1 = some [vI x106]) (h19 : aappend cfg.P prot true 22 22 (vS z13a z13n z13c) (vS (some ⟨H2.length, 0, some (1 * 1)⟩) 1 1) (H2 ++ [wo [vI x106] 3]) = some (vS x108a x108n x108c, H3)) (h20 : Fit .i64 (97 + z17)) (h21 : aappend cfg.P prot true 104 104 (vS z14a z14n z14c) (vS (some ⟨H3.length, 0, some (1 * 1)⟩) 1 1) (H3 ++ [wo [Value.int .u8 (IntKind.u8.wrap (97 + z17))] 5]) = some (vS x114a x114n x114c, H4)) (h22 : (z17 == IntKind.u8.wrap ((↑(z3.get! (↑z14n : Int).toNat).toNat : Int) - 97)) = false) : lpOf cfg a47 0 prot H0 ([.func (.func 46) #[] #[.pointer (some ⟨x1ap, x1ao, some x1al⟩)], .int .i64 x2, .string x3, .int .i64 x4, .slice x5a x5n x5c, .pointer (some ⟨x6p, x6o, some x6l⟩), .slice x13a x13n x13c, .slice x14a x14n x14c, .bool x15, .int .i64 x16], H) = some (Sum.inl ([Value.func (Fn.func 46) { toList := [] } { toList := [Value.pointer (some ⟨z1ap, z1ao, some z1al⟩)] }, Value.int .i64 z2, Value.string z3, Value.int .i64 z4, Value.slice z5a z5n z5c, Value.pointer (some ⟨z6p, z6o, some z6l⟩), Value.slice x108a x108n x108c, Value.slice x114a x114n x114c, Value.bool (z17 == IntKind.u8.wrap ((↑(z3.get! (↑z14n : Int).toNat).toNat : Int) - 97)), Value.int .i64 0], H4)) :=
 lp_of2 [.e, .e, .b true, .e, .e, .b false, .lo (.exit 2, [.func (.func 46) #[] #[vP z1ap z1ao z1al], vI z2, .string z3, vI z4, vS z5a z5n z5c, vP z6p z6o z6l, vS z13a z13n z13c, vS z14a z14n z14c, .bool z15, vI z17], H2), .v (vI x78), .e, .b true, .b true, .b true, .b true, .b true, .e, .b true, .e, .b true, .e, .b true, .e, .b true, .e, .b true, .v (vS x93a x93n x93c), .e, .e, .v (vP x98p x98o x98l), .v (vI x99), .v (vI x101), .e, .e, .v (vP x105p x105o x105l), .v (vI x106), .e, .r (vS x108a x108n x108c) H3, .e, .e, .e, .r (vS x114a x114n x114c) H4, .b false, .b false, .b false, .b false, .b false, .b false] (ai (decide_eq_true h1) (ai h2 (ai h3 (ai h4 (ai (decide_eq_true h5) (ai h6 (ai h6 (ai h6 (ai h6 (ai h6 (ai h7 (ai h8 (ai h6 (ai h6 (ai h9 (ai h6 (ai h6 (ai h10 (ai h11 (ai h12 (ai h13 (ai h14 (ai h15 (ai h16 (ai h17 (ai h18 (ai h19 (ai h20 (ai h21 (ai h22 (ai h22 (ai h22 (ai h22 (ai h22 (ai (Eq.refl false) (Eq.refl (Sum.inl ([Value.func (Fn.func 46) #[] #[vP z1ap z1ao z1al], vI z2, Value.string z3, vI z4, vS z5a z5n z5c, vP z6p z6o z6l, vS x108a x108n x108c, vS x114a x114n x114c, Value.bool (z17 == IntKind.u8.wrap ((↑(z3.get! (↑z14n : Int).toNat).toNat : Int) - 97)), vI 0], H4) : LS ⊕ LO))))))))))))))))))))))))))))))))))))) (by kernel_rfl)
theorem f47_L0_5 (h1 : (↑x5n : Int) < x4) (h2 : ((↑x14n : Int) == x2) = false) (h3 : lI a47 1 prot H0 ([Value.func (Fn.func 46) #[] #[vP x1ap x1ao x1al], vI x2, Value.string x3, vI x4, vS x5a x5n x5c, vP x6p x6o x6l, vS x13a x13n x13c, vS x14a x14n x14c, Value.bool x15, vI x16], H) = some (Ex.exit 2, [Value.func (Fn.func 46) #[] #[vP z1ap z1ao z1al], vI z2, Value.string z3, vI z4, vS z5a z5n z5c, vP z6p z6o z6l, vS z13a z13n z13c, vS z14a z14n z14c, Value.bool z15, vI z17], H2)) (h4 : getCells H2 z6p z6l (z6o + 0) 1 = some [vI x78]) (h5 : z17 < x78) (h6 : z15 = false) (h7 : getCells H2 z6p z6l (z6o + 1) 1 = some [vS x93a x93n x93c]) (h8 : Fit .i64 ((↑z13n : Int) - 1)) (h9 : aX 22 (vS z13a z13n z13c) (vI ((↑z13n : Int) - 1)) = some (vP x98p x98o x98l)) (h10 : getCells H2 x98p x98l x98o 1 = some [vI x99]) (h11 : getCells H2 z6p z6l (z6o + 0) 1 = some [vI x101]) (h12 : Fit .i64 (x99 * x101)) (h13 : Fit .i64 (x99 * x101 + z17)) (h14 : aX 22 (vS x93a x93n x93c) (vI (x99 * x101 + z17)) = some (vP x105p x105o x105l)) (h15 : getCells H2 x105p x105l x105o 1 = some [vI x106]) (h16 : aappend cfg.P prot true 22 22 (vS z13a z13n z13c) (vS (some ⟨H2.length, 0, some (1 * 1)⟩) 1 1) (H2 ++ [wo [vI x106] 3]) = some (vS x108a x108n x108c, H3)) (h17 : Fit .i64 (97 + z17)) (h18 : aappend cfg.P prot true 104 104 (vS z14a z14n z14c) (vS (some ⟨H3.length, 0, some (1 * 1)⟩) 1 1) (H3 ++ [wo [Value.int .u8 (IntKind.u8.wrap (97 + z17))] 5]) = some (vS x114a x114n x114c, H4)) : lpOf cfg a47 0 prot H0 ([.func (.func 46) #[] #[.pointer (some ⟨x1ap, x1ao, some x1al⟩)], .int .i64 x2, .string x3, .int .i64 x4, .slice x5a x5n x5c, .pointer (some ⟨x6p, x6o, some x6l⟩), .slice x13a x13n x13c, .slice x14a x14n x14c, .bool x15, .int .i64 x16], H) = some (Sum.inl ([Value.func (Fn.func 46) { toList := [] } { toList := [Value.pointer (some ⟨z1ap, z1ao, some z1al⟩)] }, Value.int .i64 z2, Value.string z3, Value.int .i64 z4, Value.slice z5a z5n z5c, Value.pointer (some ⟨z6p, z6o, some z6l⟩), Value.slice x108a x108n x108c, Value.slice x114a x114n x114c, Value.bool false, Value.int .i64 0], H4)) :=
 lp_of2 [.e, .e, .b true, .e, .e, .b false, .lo (.exit 2, [.func (.func 46) #[] #[vP z1ap z1ao z1al], vI z2, .string z3, vI z4, vS z5a z5n z5c, vP z6p z6o z6l, vS z13a z13n z13c, vS z14a z14n z14c, .bool z15, vI z17], H2), .v (vI x78), .e, .b true, .b false, .b false, .b false, .b false, .b false, .b false, .b false, .b false, .b false, .v (vS x93a x93n x93c), .e, .e, .v (vP x98p x98o x98l), .v (vI x99), .v (vI x101), .e, .e, .v (vP x105p x105o x105l), .v (vI x106), .e, .r (vS x108a x108n x108c) H3, .e, .e, .e, .r (vS x114a x114n x114c) H4, .b false, .b false, .b false, .b false, .b false, .b false] (ai (decide_eq_true h1) (ai h2 (ai h3 (ai h4 (ai (decide_eq_true h5) (ai h6 (ai h6 (ai h6 (ai h6 (ai h6 (ai h6 (ai h6 (ai h6 (ai h6 (ai h7 (ai h8 (ai h9 (ai h10 (ai h11 (ai h12 (ai h13 (ai h14 (ai h15 (ai h16 (ai h17 (ai h18 (ai (Eq.refl false) (ai (Eq.refl false) (ai (Eq.refl false) (ai (Eq.refl false) (ai (Eq.refl false) (ai (Eq.refl false) (Eq.refl (Sum.inl ([Value.func (Fn.func 46) #[] #[vP z1ap z1ao z1al], vI z2, Value.string z3, vI z4, vS z5a z5n z5c, vP z6p z6o z6l, vS x108a x108n x108c, vS x114a x114n x114c, Value.bool false, vI 0], H4) : LS ⊕ LO)))))))))))))))))))))))))))))))))) (by kernel_rfl)
theorem f47_L0_6 (h1 : (↑x5n : Int) < x4) (h2 : ((↑x14n : Int) == x2) = false) (h3 : lI a47 1 prot H0 ([Value.func (Fn.func 46) #[] #[vP x1ap x1ao x1al], vI x2, Value.string x3, vI x4, vS x5a x5n x5c, vP x6p x6o x6l, vS x13a x13n x13c, vS x14a x14n x14c, Value.bool x15, vI x16], H) = some (Ex.exit 2, [Value.func (Fn.func 46) #[] #[vP z1ap z1ao z1al], vI z2, Value.string z3, vI z4, vS z5a z5n z5c, vP z6p z6o z6l, vS z13a z13n z13c, vS z14a z14n z14c, Value.bool z15, vI z17], H2)) (h4 : getCells H2 z6p z6l (z6o + 0) 1 = some [vI x78]) (h5 : ¬(z17 < x78)) (h6 : ((↑z14n : Int) == 0) = true) : lpOf cfg a47 0 prot H0 ([.func (.func 46) #[] #[.pointer (some ⟨x1ap, x1ao, some x1al⟩)], .int .i64 x2, .string x3, .int .i64 x4, .slice x5a x5n x5c, .pointer (some ⟨x6p, x6o, some x6l⟩), .slice x13a x13n x13c, .slice x14a x14n x14c, .bool x15, .int .i64 x16], H) = some (Sum.inr (Ex.ret, [Value.slice z5a z5n z5c, Value.slice z5a z5n z5c], H2)) :=
 lp_of2 [.e, .e, .b true, .e, .e, .b false, .lo (.exit 2, [.func (.func 46) #[] #[vP z1ap z1ao z1al], vI z2, .string z3, vI z4, vS z5a z5n z5c, vP z6p z6o z6l, vS z13a z13n z13c, vS z14a z14n z14c, .bool z15, vI z17], H2), .v (vI x78), .e, .b false, .e, .e, .b true] (ai (decide_eq_true h1) (ai h2 (ai h3 (ai h4 (ai (decide_eq_false h5) (ai h6 (Eq.refl (Sum.inr (Ex.ret, [vS z5a z5n z5c, vS z5a z5n z5c], H2) : LS ⊕ LO)))))))) (by kernel_rfl)
theorem f47_L0_7 (h1 : (↑x5n : Int) < x4) (h2 : ((↑x14n : Int) == x2) = false) (h3 : lI a47 1 prot H0 ([Value.func (Fn.func 46) #[] #[vP x1ap x1ao x1al], vI x2, Value.string x3, vI x4, vS x5a x5n x5c, vP x6p x6o x6l, vS x13a x13n x13c, vS x14a x14n x14c, Value.bool x15, vI x16], H) = some (Ex.exit 2, [Value.func (Fn.func 46) #[] #[vP z1ap z1ao z1al], vI z2, Value.string z3, vI z4, vS z5a z5n z5c, vP z6p z6o z6l, vS z13a z13n z13c, vS z14a z14n z14c, Value.bool z15, vI z17], H2)) (h4 : getCells H2 z6p z6l (z6o + 0) 1 = some [vI x78]) (h5 : ¬(z17 < x78)) (h6 : ((↑z14n : Int) == 0) = false) (h7 : Fit .i64 ((↑z14n : Int) - 1)) (h8 : aX 104 (vS z14a z14n z14c) (vI ((↑z14n : Int) - 1)) = some (vP x136p x136o x136l)) (h9 : getCells H2 x136p x136l x136o 1 = some [Value.int .u8 x137]) (h10 : Fit .i64 (IntKind.u8.wrap (x137 - 97))) (h11 : Fit .i64 (IntKind.u8.wrap (x137 - 97) + 1)) (h12 : aslice cfg.P 104 (vS z14a z14n z14c) none (some (vI ((↑z14n : Int) - 1))) none H2 = some (vS x145a x145n x145c)) (h13 : Fit .i64 ((↑z13n : Int) - 1)) (h14 : aslice cfg.P 22 (vS z13a z13n z13c) none (some (vI ((↑z13n : Int) - 1))) none H2 = some (vS x150a x150n x150c)) : lpOf cfg a47 0 prot H0 ([.func (.func 46) #[] #[.pointer (some ⟨x1ap, x1ao, some x1al⟩)], .int .i64 x2, .string x3, .int .i64 x4, .slice x5a x5n x5c, .pointer (some ⟨x6p, x6o, some x6l⟩), .slice x13a x13n x13c, .slice x14a x14n x14c, .bool x15, .int .i64 x16], H) = some (Sum.inl ([Value.func (Fn.func 46) { toList := [] } { toList := [Value.pointer (some ⟨z1ap, z1ao, some z1al⟩)] }, Value.int .i64 z2, Value.string z3, Value.int .i64 z4, Value.slice z5a z5n z5c, Value.pointer (some ⟨z6p, z6o, some z6l⟩), Value.slice x150a x150n x150c, Value.slice x145a x145n x145c, Value.bool false, Value.int .i64 (IntKind.u8.wrap (x137 - 97) + 1)], H2)) :=
 lp_of2 [.e, .e, .b true, .e, .e, .b false, .lo (.exit 2, [.func (.func 46) #[] #[vP z1ap z1ao z1al], vI z2, .string z3, vI z4, vS z5a z5n z5c, vP z6p z6o z6l, vS z13a z13n z13c, vS z14a z14n z14c, .bool z15, vI z17], H2), .v (vI x78), .e, .b false, .e, .e, .b false, .e, .e, .v (vP x136p x136o x136l), .v (.int .u8 x137), .e, .e, .e, .e, .e, .v (vS x145a x145n x145c), .e, .e, .v (vS x150a x150n x150c)] (ai (decide_eq_true h1) (ai h2 (ai h3 (ai h4 (ai (decide_eq_false h5) (ai h6 (ai h7 (ai h8 (ai h9 (ai h10 (ai h11 (ai h7 (ai h12 (ai h13 (ai h14 (Eq.refl (Sum.inl ([Value.func (Fn.func 46) #[] #[vP z1ap z1ao z1al], vI z2, Value.string z3, vI z4, vS z5a z5n z5c, vP z6p z6o z6l, vS x150a x150n x150c, vS x145a x145n x145c, Value.bool false, vI (IntKind.u8.wrap (x137 - 97) + 1)], H2) : LS ⊕ LO))))))))))))))))) (by kernel_rfl)
theorem f47_L0_8 (h1 : ¬((↑x5n : Int) < x4)) : lpOf cfg a47 0 prot H0 ([.func (.func 46) #[] #[.pointer (some ⟨x1ap, x1ao, some x1al⟩)], .int .i64 x2, .string x3, .int .i64 x4, .slice x5a x5n x5c, .pointer (some ⟨x6p, x6o, some x6l⟩), .slice x13a x13n x13c, .slice x14a x14n x14c, .bool x15, .int .i64 x16], H) = some (Sum.inr (Ex.exit 0, [Value.slice x5a x5n x5c, Value.tuple { toList := [] }], H)) :=
 lp_of2 [.e, .e, .b false] (ai (decide_eq_false h1) (Eq.refl (Sum.inr (Ex.exit 0, [vS x5a x5n x5c, Value.tuple #[]], H) : LS ⊕ LO))) (by kernel_rfl)
theorem f47_L1_0 (h1 : getCells H x6p x6l (x6o + 0) 1 = some [vI x47]) (h2 : x17 < x47) (h3 : getCells H x6p x6l (x6o + 1) 1 = some [vS x52a x52n x52c]) (h4 : Fit .i64 ((↑x13n : Int) - 1)) (h5 : aX 22 (vS x13a x13n x13c) (vI ((↑x13n : Int) - 1)) = some (vP x57p x57o x57l)) (h6 : getCells H x57p x57l x57o 1 = some [vI x58]) (h7 : getCells H x6p x6l (x6o + 0) 1 = some [vI x60]) (h8 : Fit .i64 (x58 * x60)) (h9 : Fit .i64 (x58 * x60 + x17)) (h10 : aX 22 (vS x52a x52n x52c) (vI (x58 * x60 + x17)) = some (vP x64p x64o x64l)) (h11 : getCells H x64p x64l x64o 1 = some [vI x65]) (h12 : Fit .i64 (x2 - (↑x14n : Int))) (h13 : Fit .i64 (x2 - (↑x14n : Int) - 1)) (h14 : cI 46 [vI x65, vI (x2 - (↑x14n : Int) - 1), vP x1ap x1ao x1al] prot H = some (Value.bool x71, H2)) (h15 : (!x71) = false) : lpOf cfg a47 1 prot H0 ([.func (.func 46) #[] #[.pointer (some ⟨x1ap, x1ao, some x1al⟩)], .int .i64 x2, .string x3, .int .i64 x4, .slice x5a x5n x5c, .pointer (some ⟨x6p, x6o, some x6l⟩), .slice x13a x13n x13c, .slice x14a x14n x14c, .bool x15, .int .i64 x17], H) = some (Sum.inr (Ex.exit 2, [Value.func (Fn.func 46) { toList := [] } { toList := [Value.pointer (some ⟨x1ap, x1ao, some x1al⟩)] }, Value.int .i64 x2, Value.string x3, Value.int .i64 x4, Value.slice x5a x5n x5c, Value.pointer (some ⟨x6p, x6o, some x6l⟩), Value.slice x13a x13n x13c, Value.slice x14a x14n x14c, Value.bool x15, Value.int .i64 x17], H2)) :=
 lp_of2 [.v (vI x47), .e, .b true, .b true, .b true, .v (vS x52a x52n x52c), .b true, .b true, .b true, .e, .b true, .e, .b true, .v (vP x57p x57o x57l), .b true, .v (vI x58), .b true, .b true, .v (vI x60), .b true, .e, .b true, .b true, .e, .b true, .v (vP x64p x64o x64l), .b true, .v (vI x65), .b true, .b true, .b true, .e, .b true, .e, .b true, .e, .b true, .r (.bool x71) H2, .b true, .e, .b true, .b false] (ai h1 (ai (decide_eq_true h2) (ai (decide_eq_true h2) (ai (decide_eq_true h2) (ai h3 (ai (decide_eq_true h2) (ai (decide_eq_true h2) (ai (decide_eq_true h2) (ai (decide_eq_true h2) (ai h4 (ai (decide_eq_true h2) (ai h5 (ai (decide_eq_true h2) (ai h6 (ai (decide_eq_true h2) (ai (decide_eq_true h2) (ai h7 (ai (decide_eq_true h2) (ai h8 (ai (decide_eq_true h2) (ai (decide_eq_true h2) (ai h9 (ai (decide_eq_true h2) (ai h10 (ai (decide_eq_true h2) (ai h11 (ai (decide_eq_true h2) (ai (decide_eq_true h2) (ai (decide_eq_true h2) (ai (decide_eq_true h2) (ai h12 (ai (decide_eq_true h2) (ai h13 (ai (decide_eq_true h2) (ai h14 (ai (decide_eq_true h2) (ai (decide_eq_true h2) (ai h15 (Eq.refl (Sum.inr (Ex.exit 2, [Value.func (Fn.func 46) #[] #[vP x1ap x1ao x1al], vI x2, Value.string x3, vI x4, vS x5a x5n x5c, vP x6p x6o x6l, vS x13a x13n x13c, vS x14a x14n x14c, Value.bool x15, vI x17], H2) : LS ⊕ LO)))))))))))))))))))))))))))))))))))))))) (by kernel_rfl)
theorem f47_L1_1 (h1 : getCells H x6p x6l (x6o + 0) 1 = some [vI x47]) (h2 : x17 < x47) (h3 : getCells H x6p x6l (x6o + 1) 1 = some [vS x52a x52n x52c]) (h4 : Fit .i64 ((↑x13n : Int) - 1)) (h5 : aX 22 (vS x13a x13n x13c) (vI ((↑x13n : Int) - 1)) = some (vP x57p x57o x57l)) (h6 : getCells H x57p x57l x57o 1 = some [vI x58]) (h7 : getCells H x6p x6l (x6o + 0) 1 = some [vI x60]) (h8 : Fit .i64 (x58 * x60)) (h9 : Fit .i64 (x58 * x60 + x17)) (h10 : aX 22 (vS x52a x52n x52c) (vI (x58 * x60 + x17)) = some (vP x64p x64o x64l)) (h11 : getCells H x64p x64l x64o 1 = some [vI x65]) (h12 : Fit .i64 (x2 - (↑x14n : Int))) (h13 : Fit .i64 (x2 - (↑x14n : Int) - 1)) (h14 : cI 46 [vI x65, vI (x2 - (↑x14n : Int) - 1), vP x1ap x1ao x1al] prot H = some (Value.bool x71, H2)) (h15 : (!x71) = true) (h16 : Fit .i64 (x17 + 1)) : lpOf cfg a47 1 prot H0 ([.func (.func 46) #[] #[.pointer (some ⟨x1ap, x1ao, some x1al⟩)], .int .i64 x2, .string x3, .int .i64 x4, .slice x5a x5n x5c, .pointer (some ⟨x6p, x6o, some x6l⟩), .slice x13a x13n x13c, .slice x14a x14n x14c, .bool x15, .int .i64 x17], H) = some (Sum.inl ([Value.func (Fn.func 46) { toList := [] } { toList := [Value.pointer (some ⟨x1ap, x1ao, some x1al⟩)] }, Value.int .i64 x2, Value.string x3, Value.int .i64 x4, Value.slice x5a x5n x5c, Value.pointer (some ⟨x6p, x6o, some x6l⟩), Value.slice x13a x13n x13c, Value.slice x14a x14n x14c, Value.bool x15, Value.int .i64 (x17 + 1)], H2)) :=
 lp_of2 [.v (vI x47), .e, .b true, .b true, .b true, .v (vS x52a x52n x52c), .b true, .b true, .b true, .e, .b true, .e, .b true, .v (vP x57p x57o x57l), .b true, .v (vI x58), .b true, .b true, .v (vI x60), .b true, .e, .b true, .b true, .e, .b true, .v (vP x64p x64o x64l), .b true, .v (vI x65), .b true, .b true, .b true, .e, .b true, .e, .b true, .e, .b true, .r (.bool x71) H2, .b true, .e, .b true, .b true, .e] (ai h1 (ai (decide_eq_true h2) (ai (decide_eq_true h2) (ai (decide_eq_true h2) (ai h3 (ai (decide_eq_true h2) (ai (decide_eq_true h2) (ai (decide_eq_true h2) (ai (decide_eq_true h2) (ai h4 (ai (decide_eq_true h2) (ai h5 (ai (decide_eq_true h2) (ai h6 (ai (decide_eq_true h2) (ai (decide_eq_true h2) (ai h7 (ai (decide_eq_true h2) (ai h8 (ai (decide_eq_true h2) (ai (decide_eq_true h2) (ai h9 (ai (decide_eq_true h2) (ai h10 (ai (decide_eq_true h2) (ai h11 (ai (decide_eq_true h2) (ai (decide_eq_true h2) (ai (decide_eq_true h2) (ai (decide_eq_true h2) (ai h12 (ai (decide_eq_true h2) (ai h13 (ai (decide_eq_true h2) (ai h14 (ai (decide_eq_true h2) (ai (decide_eq_true h2) (ai h15 (ai h16 (Eq.refl (Sum.inl ([Value.func (Fn.func 46) #[] #[vP x1ap x1ao x1al], vI x2, Value.string x3, vI x4, vS x5a x5n x5c, vP x6p x6o x6l, vS x13a x13n x13c, vS x14a x14n x14c, Value.bool x15, vI (x17 + 1)], H2) : LS ⊕ LO))))))))))))))))))))))))))))))))))))))))) (by kernel_rfl)
theorem f47_L1_2 (h1 : getCells H x6p x6l (x6o + 0) 1 = some [vI x47]) (h2 : ¬(x17 < x47)) : lpOf cfg a47 1 prot H0 ([.func (.func 46) #[] #[.pointer (some ⟨x1ap, x1ao, some x1al⟩)], .int .i64 x2, .string x3, .int .i64 x4, .slice x5a x5n x5c, .pointer (some ⟨x6p, x6o, some x6l⟩), .slice x13a x13n x13c, .slice x14a x14n x14c, .bool x15, .int .i64 x17], H) = some (Sum.inr (Ex.exit 2, [Value.func (Fn.func 46) { toList := [] } { toList := [Value.pointer (some ⟨x1ap, x1ao, some x1al⟩)] }, Value.int .i64 x2, Value.string x3, Value.int .i64 x4, Value.slice x5a x5n x5c, Value.pointer (some ⟨x6p, x6o, some x6l⟩), Value.slice x13a x13n x13c, Value.slice x14a x14n x14c, Value.bool x15, Value.int .i64 x17], H)) :=
 lp_of2 [.v (vI x47), .e, .b false, .b false, .b false, .b false, .b false, .b false, .b false, .b false, .b false, .b false, .b false, .b false, .b false, .b false, .b false, .b false, .b false, .b false, .b false, .b false, .b false, .b false, .b false, .b false, .b false] (ai h1 (ai (decide_eq_false h2) (ai (decide_eq_false h2) (ai (decide_eq_false h2) (ai (decide_eq_false h2) (ai (decide_eq_false h2) (ai (decide_eq_false h2) (ai (decide_eq_false h2) (ai (decide_eq_false h2) (ai (decide_eq_false h2) (ai (decide_eq_false h2) (ai (decide_eq_false h2) (ai (decide_eq_false h2) (ai (decide_eq_false h2) (ai (decide_eq_false h2) (ai (decide_eq_false h2) (ai (decide_eq_false h2) (ai (decide_eq_false h2) (ai (decide_eq_false h2) (ai (decide_eq_false h2) (ai (decide_eq_false h2) (ai (decide_eq_false h2) (ai (decide_eq_false h2) (ai (decide_eq_false h2) (ai (decide_eq_false h2) (ai (Eq.refl false) (Eq.refl (Sum.inr (Ex.exit 2, [Value.func (Fn.func 46) #[] #[vP x1ap x1ao x1al], vI x2, Value.string x3, vI x4, vS x5a x5n x5c, vP x6p x6o x6l, vS x13a x13n x13c, vS x14a x14n x14c, Value.bool x15, vI x17], H) : LS ⊕ LO)))))))))))))))))))))))))))) (by kernel_rfl)
end
end Go.Proofs.Ythjkodbinkiifaa.Am23
namespace Go.Proofs.Ythjkodbinkiifaa.Am23
open Go Go.Proofs.Ythjkodbinkiifaa.Am

theorem T104 : ElemT cfg.P 104 5 1 1 := ⟨by kernel_rfl, by kernel_rfl, by kernel_rfl, ⟨.int .u8 0, by kernel_rfl, rfl⟩, by kernel_rfl, by omega, by omega⟩
def stl (l : List Nat) : List Value := l.map fun (s : Nat) => .int .i64 (s : Int)
theorem stl_snoc (l : List Nat) (s : Nat) : stl (l ++ [s]) = stl l ++ [.int .i64 (s : Int)] := by simp [stl]
theorem lcs_snoc (l : List Nat) (s : Nat) : lcs (l ++ [s]) = lcs l ++ [.int .u8 ((97 + s : Nat) : Int)] := by simp [lcs]
theorem goS_lt {k : Nat} {xs : List Int} {bs : List Bool} (hG : Good k xs bs) : ∀ (w : List Nat) (s : Nat), s < bs.length → (∀ c ∈ w, c < k) → w.foldl (tgt k xs) s < bs.length
 | [], s, hs, _ => hs
 | c :: w, s, hs, h => goS_lt hG w _ (tgt_lt hG hs (h c (by simp))).2.1 (fun d hd => h d (by simp [hd]))
theorem lw_nil (l : List Nat) : (!(lw l).toList == []) = !l.isEmpty := by
 rw [ByteArray.toList_eq]
 cases l with
 | nil => rfl
 | cons a l => simp [lw, bstr]

abbrev fcan (p : Nat) : Value := .func (.func 46) #[] #[.pointer (some ⟨p, 0, some 4097⟩)]
/-- It lies below, and is not the list that is made. -/
def Safe (o5 : Option Nat) (b : Nat) (v : Value) : Prop := ∀ id off L n c, v = .slice (some ⟨id, off, some L⟩) n c → id < b ∧ o5 ≠ some id
structure B47 (k : Nat) (xs : List Int) (bs : List Bool) (p : Nat) (L : List Value) (b : Nat) (o5 : Option Nat) (H : AHeap) (vN vA : Value) : Prop where
 hb : H[b]? = some (bx k vN vA)
 h5 : o5 ≠ some b
 n : Rd H 3 1 vN xs.length (il xs)
 ns : Safe o5 b vN
 ar : H[p]? = some (.cells L 72 4097 .var)
 pl : p < b
 p5 : o5 ≠ some p
 rows : ∀ m, m ≤ 4096 → ∃ v, L[m]? = some v ∧ Rd H 4 1 v bs.length (bll (canL k xs bs m)) ∧ Safe o5 b v
theorem B47.stay {k : Nat} {xs : List Int} {bs : List Bool} {p : Nat} {L : List Value} {b : Nat} {o5 : Option Nat} {H : AHeap} {vN vA : Value} (h : B47 k xs bs p L b o5 H vN vA) {o : Option Nat} {H' : AHeap} (s : Stay o H H') (ho : o = o5 ∨ ∀ id, o = some id → b < id) : B47 k xs bs p L b o5 H' vN vA := by
 have hne : ∀ q, q ≤ b → o5 ≠ some q → o ≠ some q := fun q hq h5 e => by
  rcases ho with ho | ho
  ·exact h5 (ho ▸ e)
  ·have := ho q e; omega
 have hs : ∀ v, Safe o5 b v → ∀ id off L n c, v = .slice (some ⟨id, off, some L⟩) n c → o ≠ some id := fun v hv id off L n c e => by
  obtain ⟨h1, h2⟩ := hv id off L n c e
  exact hne id (by omega) h2
 exact ⟨by rw [s.2 _ (List.getElem?_eq_some_iff.1 h.hb).1 (hne _ (Nat.le_refl _) h.h5)]; exact h.hb, h.h5, h.n.stayNe s (hs _ h.ns), h.ns, by rw [s.2 _ (List.getElem?_eq_some_iff.1 h.ar).1 (hne _ (by have := h.pl; omega) h.p5)]; exact h.ar, h.pl, h.p5, fun m hm => by
  obtain ⟨v, h1, h2, h3⟩ := h.rows m hm
  exact ⟨v, h1, h2.stayNe s (hs _ h3), h3⟩⟩
theorem B47.new {k : Nat} {xs : List Int} {bs : List Bool} {p : Nat} {L : List Value} {b : Nat} {o5 : Option Nat} {H : AHeap} {vN vA : Value} (h : B47 k xs bs p L b o5 H vN vA) {id : Nat} (hi : b < id) : B47 k xs bs p L b (some id) H vN vA := by
 have hs : ∀ v, Safe o5 b v → Safe (some id) b v := fun v hv id' off L n c e => ⟨(hv id' off L n c e).1, fun e2 => by have := (hv id' off L n c e).1; have := Option.some.inj e2; omega⟩
 have := h.pl
 exact ⟨h.hb, fun e => by have := Option.some.inj e; omega, h.n, hs _ h.ns, h.ar, h.pl, fun e => by have := Option.some.inj e; omega, fun m hm => by
  obtain ⟨v, h1, h2, h3⟩ := h.rows m hm
  exact ⟨v, h1, h2, hs _ h3⟩⟩

theorem loop47i {k n p : Nat} {xs : List Int} {bs : List Bool} (hG : Good k xs bs) {L : List Value} (hL : L.length = 4097) {H0 H : AHeap} {prot : Nat} {vN vA x5 x13 x14 : Value} {o5 : Option Nat} {lo : ByteArray} {most : Int} {t : Bool} {w : List Nat} (hw : ∀ c ∈ w, c < k) (hwn : w.length < n) (hn : n ≤ 4096)
  (hB : B47 k xs bs p L H0.length o5 H vN vA) (h13 : Rd H 3 1 x13 (w.length + 1) (stl (pathS (tgt k xs) w))) (h14 : ∃ a c, x14 = .slice a w.length c) (h5 : ∃ a m c, x5 = .slice a m c) : ∀ (d c : Nat), c + d = k →
  lpInf (lpOf cfg a47 1 prot H0) ([fcan p, .int .i64 n, .string lo, .int .i64 most, x5, .pointer (some ⟨H0.length, 0, some 3⟩), x13, x14, .bool t, .int .i64 c], H) =
   some (.exit 2, [fcan p, .int .i64 n, .string lo, .int .i64 most, x5, .pointer (some ⟨H0.length, 0, some 3⟩), x13, x14, .bool t, .int .i64 (firstC (fun c => canB k (tgt k xs) (accB bs) (n - w.length - 1) (tgt k xs (goS (tgt k xs) w) c)) d c : Nat)], H)
 | 0, c, hc => by
  obtain ⟨g0, _, _, _⟩ := fld3 hB.hb
  obtain ⟨a13, c13, rfl⟩ := h13.len
  obtain ⟨a14, c14, rfl⟩ := h14
  obtain ⟨a5, m5, c5, rfl⟩ := h5
  exact lp_last (f47_L1_2 g0 (by omega))
 | d + 1, c, hc => by
  have hk8 := hG.k8
  have hn5 := hG.n5
  obtain ⟨g0, g1, _, _⟩ := fld3 hB.hb
  have hs : goS (tgt k xs) w < bs.length := goS_lt hG w 0 (by have := hG.n1; omega) hw
  obtain ⟨i1, i2, i3⟩ := tgt_lt hG hs (show c < k by omega)
  have hxl := hG.nx
  have hb8 : bs.length * k ≤ 512 * 8 := Nat.mul_le_mul hn5 hk8
  have hsk : goS (tgt k xs) w * k ≤ 512 * 8 := Nat.mul_le_mul (by omega) hk8
  obtain ⟨idT, LT, t1, t2⟩ := rd_last T22 h13 (v := .int .i64 (goS (tgt k xs) w : Int)) (by unfold stl; rw [List.getElem?_map, pathS_top]; rfl)
  have hxi : (il xs)[goS (tgt k xs) w * k + c]? = some (.int .i64 ((tgt k xs (goS (tgt k xs) w) c : Nat) : Int)) := by unfold il; rw [List.getElem?_map, i3]; rfl
  obtain ⟨idN, LN, n1, n2⟩ := rd_at T22 hB.n hxi
  have ec : ((goS (tgt k xs) w * k + c : Nat) : Int) = (goS (tgt k xs) w : Int) * (k : Int) + (c : Int) := by push_cast; rfl
  rw [ec] at n1
  have hcan := c46 (k := k) (xs := xs) (bs := bs) (m := n - w.length - 1) prot hB.ar hL (by obtain ⟨v, h1, h2, _⟩ := hB.rows (n - w.length - 1) (by omega); exact ⟨v, h1, h2⟩) i2 (by omega)
  have e1 : ((n - w.length - 1 : Nat) : Int) = (n : Int) - (w.length : Int) - 1 := by omega
  rw [e1] at hcan
  obtain ⟨aN, cN, hvN⟩ := hB.n.len
  rw [hvN] at n1 g1
  obtain ⟨a13, c13, rfl⟩ := h13.len
  obtain ⟨a14, c14, rfl⟩ := h14
  obtain ⟨a5, m5, c5, rfl⟩ := h5
  have f1 : Fit .i64 ((((w.length + 1 : Nat)) : Int) - 1) := fit64 (by omega) (by omega)
  have f2 : Fit .i64 ((goS (tgt k xs) w : Int) * (k : Int)) := fit64 (by rw [show (goS (tgt k xs) w : Int) * (k : Int) = ((goS (tgt k xs) w * k : Nat) : Int) by push_cast; rfl]; omega) (by rw [show (goS (tgt k xs) w : Int) * (k : Int) = ((goS (tgt k xs) w * k : Nat) : Int) by push_cast; rfl]; omega)
  have f3 : Fit .i64 ((goS (tgt k xs) w : Int) * (k : Int) + (c : Int)) := fit64 (by rw [← ec]; omega) (by rw [← ec]; omega)
  cases hp : canB k (tgt k xs) (accB bs) (n - w.length - 1) (tgt k xs (goS (tgt k xs) w) c) with
  | true =>
   rw [hp] at hcan
   have e2 : firstC (fun c => canB k (tgt k xs) (accB bs) (n - w.length - 1) (tgt k xs (goS (tgt k xs) w) c)) (d + 1) c = c := by rw [firstC, if_pos hp]
   rw [e2]
   exact lp_last (f47_L1_0 g0 (by omega) g1 f1 t1 t2 g0 f2 f3 n1 n2 (fit64 (by omega) (by omega)) (fit64 (by omega) (by omega)) hcan rfl)
  | false =>
   rw [hp] at hcan
   have e2 : firstC (fun c => canB k (tgt k xs) (accB bs) (n - w.length - 1) (tgt k xs (goS (tgt k xs) w) c)) (d + 1) c = firstC (fun c => canB k (tgt k xs) (accB bs) (n - w.length - 1) (tgt k xs (goS (tgt k xs) w) c)) d (c + 1) := by rw [firstC, if_neg (by rw [hp]; simp)]
   rw [e2]
   exact lp_next (f47_L1_1 g0 (by omega) g1 f1 t1 t2 g0 f2 f3 n1 n2 (fit64 (by omega) (by omega)) (fit64 (by omega) (by omega)) hcan rfl (fit64 (by omega) (by omega))) (loop47i hG hL hw hwn hn hB h13 ⟨a14, c14, rfl⟩ ⟨a5, m5, c5, rfl⟩ d (c + 1) (by omega))

structure L47 (k p : Nat) (xs : List Int) (bs : List Bool) (L : List Value) (b : Nat) (H : AHeap) (vN vA x5 x13 x14 : Value) (o5 o14 : Option Nat) (o13 : Nat) (w : List Nat) (out : List (List Nat)) : Prop where
 bb : B47 k xs bs p L b o5 H vN vA
 out : Own H 9 1 x5 o5 out.length (sl out)
 st : Stk H 3 x13 (some o13) (w.length + 1) (stl (pathS (tgt k xs) w))
 wd : Stk H 5 x14 o14 w.length (lcs w)
 l13 : b < o13
 l14 : ∀ id, o14 = some id → b < id
 d1 : o5 ≠ some o13
 d2 : ∀ id, o14 = some id → o5 ≠ some id
 d3 : o14 ≠ some o13
structure DI (k n : Nat) (low : List Nat) (D : DSt) : Prop where
 wl : D.w.length ≤ n
 wk : ∀ c ∈ D.w, c < k
 ti : D.tight = true → low.length = n
 nx : D.next ≤ k
def Rel (b : Nat) (o o' : Option Nat) : Prop := (∀ id, o = some id → o' = some id) ∧ (o = none → ∀ id, o' = some id → b < id)
def Fr (b : Nat) (o : Option Nat) (H H' : AHeap) : Prop := (∀ q, q < b → o ≠ some q → H'[q]? = H[q]?) ∧ H.length ≤ H'.length
theorem Rel.refl (b : Nat) (o : Option Nat) : Rel b o o := ⟨fun _ h => h, fun h id h2 => by rw [h] at h2; cases h2⟩
theorem Rel.trans {b : Nat} {o o' o2 : Option Nat} (h : Rel b o o') (k : Rel b o' o2) : Rel b o o2 := ⟨fun id e => k.1 id (h.1 id e), fun e id e2 => by
 cases ho : o' with
 | none => exact k.2 ho id e2
 | some i => rw [k.1 i ho] at e2; have e3 := Option.some.inj e2; rw [← e3]; exact h.2 e i ho⟩
theorem Fr.trans {b : Nat} {o o' : Option Nat} {H H' H2 : AHeap} (h : Fr b o H H') (r : Rel b o o') (k : Fr b o' H' H2) : Fr b o H H2 := ⟨fun q hq ho => by
 rw [k.1 q hq (fun e => by
  cases hh : o with
  | none => have := r.2 hh q e; omega
  | some i => rw [r.1 i hh] at e; rw [hh] at ho; exact ho e)]
 exact h.1 q hq ho, Nat.le_trans h.2 k.2⟩
theorem stay_fr {b : Nat} {o o' : Option Nat} {H H' : AHeap} (h : Stay o' H H') (hb : b ≤ H.length) (ho : o' = o ∨ ∀ id, o' = some id → b ≤ id) : Fr b o H H' := ⟨fun q hq hne => h.2 q (by omega) (fun e => by
 rcases ho with ho | ho
 ·exact hne (ho ▸ e)
 ·have := ho q e; omega), h.1⟩

/-- One word more. -/
theorem out47 {k p prot most : Nat} {xs : List Int} {bs : List Bool} {L : List Value} {b : Nat} {H : AHeap} {vN vA x5 x13 x14 : Value} {o5 o14 : Option Nat} {o13 : Nat} {w : List Nat} {out : List (List Nat)} (hS : L47 k p xs bs L b H vN vA x5 x13 x14 o5 o14 o13 w out)
  (hp : ∀ id, o5 = some id → prot ≤ id) (hpb : prot ≤ b) (hm : most ≤ 1000) (ho : out.length < most) :
  ∃ a' c' o' H', aappend cfg.P prot true 43 43 x5 (.slice (some ⟨H.length, 0, some (1 * 1)⟩) 1 1) (H ++ [.cells [.string (lw w)] 9 [Value.string (lw w)].length .row]) = some (.slice a' (out.length + 1) c', H') ∧ L47 k p xs bs L b H' vN vA (.slice a' (out.length + 1) c') x13 x14 (some o') o14 o13 w (out ++ [w]) ∧ Rel b o5 (some o') ∧ Fr b o5 H H' := by
 have hbl := (List.getElem?_eq_some_iff.1 hS.bb.hb).1
 obtain ⟨a', c', o', H', q1, q2, q3, q4, q5, q6⟩ := own_app T43 hS.out (ecs := [.string (lw w)]) rfl rfl (prot := prot) (room := true) hp (by omega) (by omega) (L := 1 * 1) rfl (el := [Value.string (lw w)].length) rfl
 have e1 : sl out ++ [.string (lw w)] = sl (out ++ [w]) := by simp [sl]
 rw [e1] at q2
 have l13 := hS.st.lt
 have hB : B47 k xs bs p L b (some o') H' vN vA := by
  have hb1 := hS.bb.stay q3 (.inl rfl)
  cases hh : o5 with
  | none => exact hb1.new (by have := q5 hh; omega)
  | some i => have := q6 i hh; subst this; rw [hh] at hb1; exact hb1
 refine ⟨a', c', o', H', q1, ⟨hB, by simpa using q2, hS.st.stay q3 (fun id h1 h2 => by cases h1; exact hS.d1 h2), hS.wd.stay q3 (fun id h1 h2 => hS.d2 id h1 h2), hS.l13, hS.l14, fun e => ?_, fun id h1 h2 => ?_, hS.d3⟩, ⟨fun id e => by rw [q6 id e], fun e id e2 => by cases e2; have := q5 e; omega⟩, stay_fr q3 (by omega) (.inl rfl)⟩
 ·have e := Option.some.inj e
  subst e
  cases hh : o5 with
  | none => have := q5 hh; omega
  | some i => have := q6 i hh; subst this; exact hS.d1 hh
 ·have e := Option.some.inj h2
  subst e
  cases hh : o5 with
  | none =>
   have := q5 hh
   have h3 := hS.wd
   rw [h1] at h3
   have := h3.lt
   omega
  | some i => have := q6 i hh; subst this; exact hS.d2 _ h1 hh

/-- Back by one letter. -/
theorem pop47 {k p : Nat} {xs : List Int} {bs : List Bool} {L : List Value} {b : Nat} {H : AHeap} {vN vA x5 x13 x14 : Value} {o5 o14 : Option Nat} {o13 c : Nat} {u : List Nat} {out : List (List Nat)} (hS : L47 k p xs bs L b H vN vA x5 x13 x14 o5 o14 o13 (u ++ [c]) out) :
  ∃ id M a14 c14 a13 c13, aindexAddr cfg.P 104 x14 (.int .i64 ((((u ++ [c]).length : Nat) : Int) - 1)) = some (.pointer (some ⟨id, u.length, some M⟩)) ∧ getCells H id M u.length 1 = some [.int .u8 ((97 + c : Nat) : Int)] ∧
   aslice cfg.P 104 x14 none (some (.int .i64 ((((u ++ [c]).length : Nat) : Int) - 1))) none H = some (.slice a14 u.length c14) ∧ aslice cfg.P 22 x13 none (some (.int .i64 (((((u ++ [c]).length + 1 : Nat)) : Int) - 1))) none H = some (.slice a13 (u.length + 1) c13) ∧
   L47 k p xs bs L b H vN vA x5 (.slice a13 (u.length + 1) c13) (.slice a14 u.length c14) o5 o14 o13 u out := by
 have el : (u ++ [c]).length = u.length + 1 := by simp
 have hw := hS.wd
 have hs := hS.st
 rw [el] at hw hs ⊢
 obtain ⟨id, M, i1, i2⟩ := rd_last T104 hw.rd (v := .int .u8 ((97 + c : Nat) : Int)) (by rw [lcs_snoc, List.getElem?_append_right (by simp [lcs])]; simp [lcs])
 obtain ⟨a14, c14, j1, j2⟩ := stk_pop T104 hw (by omega)
 obtain ⟨a13, c13, k1, k2⟩ := stk_pop T22 hs (by omega)
 rw [lcs_snoc, List.dropLast_concat] at j2
 rw [pathS_snoc, stl_snoc, List.dropLast_concat] at k2
 simp only [Nat.add_sub_cancel] at j1 j2 k1 k2
 exact ⟨id, M, a14, c14, a13, c13, i1, i2, j1, k1, ⟨hS.bb, hS.out, k2, j2, hS.l13, hS.l14, hS.d1, hS.d2, hS.d3⟩⟩

/-- On by one letter. -/
theorem push47 {k n p prot c : Nat} {xs : List Int} {bs : List Bool} (hG : Good k xs bs) {L : List Value} {b : Nat} {H : AHeap} {vN vA x5 x13 x14 : Value} {o5 o14 : Option Nat} {o13 : Nat} {w : List Nat} {out : List (List Nat)} (hS : L47 k p xs bs L b H vN vA x5 x13 x14 o5 o14 o13 w out)
  (hpb : prot ≤ b) (hw : ∀ c ∈ w, c < k) (hwn : w.length < n) (hn : n ≤ 4096) (hc : c < k) :
  ∃ idT LT idN LN a13 c13 H3 a14 c14 o14' H4, aindexAddr cfg.P 22 x13 (.int .i64 (((w.length + 1 : Nat) : Int) - 1)) = some (.pointer (some ⟨idT, w.length, some LT⟩)) ∧ getCells H idT LT w.length 1 = some [.int .i64 (goS (tgt k xs) w : Int)] ∧
   aindexAddr cfg.P 22 vN (.int .i64 ((goS (tgt k xs) w : Int) * (k : Int) + (c : Int))) = some (.pointer (some ⟨idN, goS (tgt k xs) w * k + c, some LN⟩)) ∧ getCells H idN LN (goS (tgt k xs) w * k + c) 1 = some [.int .i64 ((tgt k xs (goS (tgt k xs) w) c : Nat) : Int)] ∧
   aappend cfg.P prot true 22 22 x13 (.slice (some ⟨H.length, 0, some (1 * 1)⟩) 1 1) (H ++ [.cells [.int .i64 ((tgt k xs (goS (tgt k xs) w) c : Nat) : Int)] 3 [Value.int .i64 ((tgt k xs (goS (tgt k xs) w) c : Nat) : Int)].length .row]) = some (.slice a13 (w.length + 1 + 1) c13, H3) ∧
   aappend cfg.P prot true 104 104 x14 (.slice (some ⟨H3.length, 0, some (1 * 1)⟩) 1 1) (H3 ++ [.cells [.int .u8 (IntKind.u8.wrap (97 + (c : Int)))] 5 [Value.int .u8 (IntKind.u8.wrap (97 + (c : Int)))].length .row]) = some (.slice a14 (w.length + 1) c14, H4) ∧
   L47 k p xs bs L b H4 vN vA x5 (.slice a13 (w.length + 1 + 1) c13) (.slice a14 (w.length + 1) c14) o5 o14' o13 (w ++ [c]) out ∧ Fr b o5 H H4 ∧ Fit .i64 ((goS (tgt k xs) w : Int) * (k : Int)) ∧ Fit .i64 ((goS (tgt k xs) w : Int) * (k : Int) + (c : Int)) := by
 have hk8 := hG.k8
 have hn5 := hG.n5
 have hs : goS (tgt k xs) w < bs.length := goS_lt hG w 0 (by have := hG.n1; omega) hw
 obtain ⟨i1, i2, i3⟩ := tgt_lt hG hs hc
 have hb8 : bs.length * k ≤ 512 * 8 := Nat.mul_le_mul hn5 hk8
 have hsk : goS (tgt k xs) w * k ≤ 512 * 8 := Nat.mul_le_mul (by omega) hk8
 obtain ⟨idT, LT, t1, t2⟩ := rd_last T22 hS.st.rd (v := .int .i64 (goS (tgt k xs) w : Int)) (by unfold stl; rw [List.getElem?_map, pathS_top]; rfl)
 have hxi : (il xs)[goS (tgt k xs) w * k + c]? = some (.int .i64 ((tgt k xs (goS (tgt k xs) w) c : Nat) : Int)) := by unfold il; rw [List.getElem?_map, i3]; rfl
 obtain ⟨idN, LN, n1, n2⟩ := rd_at T22 hS.bb.n hxi
 have ec : ((goS (tgt k xs) w * k + c : Nat) : Int) = (goS (tgt k xs) w : Int) * (k : Int) + (c : Int) := by push_cast; rfl
 rw [ec] at n1
 have hbl := (List.getElem?_eq_some_iff.1 hS.bb.hb).1
 have l13 := hS.l13
 have l13' := hS.st.lt
 obtain ⟨a13, c13, o, H3, p1, p2, p3, p4, p5, p6⟩ := stk_push T22 hS.st (v := .int .i64 ((tgt k xs (goS (tgt k xs) w) c : Nat) : Int)) rfl (prot := prot) (fun id h => by cases h; omega) (by omega) (by omega) (L := 1 * 1) rfl (el := [Value.int .i64 ((tgt k xs (goS (tgt k xs) w) c : Nat) : Int)].length) rfl
 obtain rfl : o = o13 := p6 _ rfl
 have w14 := hS.wd.stay p3 (fun id h1 h2 => hS.d3 (by rw [h1, h2]))
 have l3 := p3.1
 obtain ⟨a14, c14, o2, H4, q1, q2, q3, q4, q5, q6⟩ := stk_push T104 w14 (v := .int .u8 (IntKind.u8.wrap (97 + (c : Int)))) rfl (prot := prot) (fun id h => by have := hS.l14 id h; omega) (by omega) (by omega) (L := 1 * 1) rfl (el := [Value.int .u8 (IntKind.u8.wrap (97 + (c : Int)))].length) rfl
 have eu : IntKind.u8.wrap (97 + (c : Int)) = ((97 + c : Nat) : Int) := by
  rw [show (97 : Int) + (c : Int) = ((97 + c : Nat) : Int) by omega]
  exact u8_small (by omega)
 have hb3 := hS.bb.stay p3 (.inr fun id h => by cases h; exact l13)
 have hb4 := hb3.stay q3 (.inr hS.l14)
 have hout : Own H4 9 1 x5 o5 out.length (sl out) := (hS.out.stay p3 (fun id h1 h2 => by cases h2; exact hS.d1 h1)).stay q3 (fun id h1 h2 => hS.d2 id h2 h1)
 have ho5 : ∀ id, o5 = some id → id < H.length := fun id h => by
  have := hS.out
  rw [h] at this
  exact own_lt this
 refine ⟨idT, LT, idN, LN, a13, c13, H3, a14, c14, some o2, H4, t1, t2, n1, n2, p1, q1, ⟨hb4, hout, ?_, ?_, l13, fun id h => ?_, hS.d1, fun id h1 h2 => ?_, fun h => ?_⟩, ?_, ?_, ?_⟩
 ·rw [pathS_snoc, stl_snoc, List.length_append]
  exact p2.stay q3 (fun id h1 h2 => by cases h1; exact hS.d3 h2)
 ·rw [lcs_snoc, List.length_append, ← eu]
  exact q2
 ·have h := Option.some.inj h
  subst h
  cases ho : o14 with
  | none => have := q5 ho; omega
  | some i => have := q6 i ho; subst this; exact hS.l14 _ ho
 ·have h := Option.some.inj h1
  subst h
  cases ho : o14 with
  | none => have := q5 ho; have := ho5 _ h2; omega
  | some i => have := q6 i ho; subst this; exact hS.d2 _ ho h2
 ·have h := Option.some.inj h
  subst h
  cases ho : o14 with
  | none => have := q5 ho; omega
  | some i => have := q6 i ho; subst this; exact hS.d3 ho
 ·exact ⟨fun q hq hne => by rw [q3.2 q (by omega) (fun e => by have := hS.l14 q e; omega), p3.2 q (by omega) (fun e => by cases e; omega)], Nat.le_trans p3.1 q3.1⟩
 ·exact fit64 (by rw [show (goS (tgt k xs) w : Int) * (k : Int) = ((goS (tgt k xs) w * k : Nat) : Int) by push_cast; rfl]; omega) (by rw [show (goS (tgt k xs) w : Int) * (k : Int) = ((goS (tgt k xs) w * k : Nat) : Int) by push_cast; rfl]; omega)
 ·exact fit64 (by rw [← ec]; omega) (by rw [← ec]; omega)

abbrev s47 (p n most H0l : Nat) (low : List Nat) (x5 x13 x14 : Value) (t : Bool) (c : Nat) : List Value :=
 [fcan p, .int .i64 n, .string (lw low), .int .i64 most, x5, .pointer (some ⟨H0l, 0, some 3⟩), x13, x14, .bool t, .int .i64 c]
/-- How the loop ends. -/
def Fin47 (e : Ex) (vs : List Value) (X : Value) : Prop := (e = .exit 0 ∧ vs = [X, .tuple #[]]) ∨ (e = .ret ∧ vs = [X, X])

theorem body47 {k n p most : Nat} {xs : List Int} {bs : List Bool} (hG : Good k xs bs) {low : List Nat} (hlk : ∀ i, low.getD i 0 < k) (hn : n ≤ 4096) (hm : most ≤ 1000) {L : List Value} (hL : L.length = 4097) {H0 H : AHeap} {prot : Nat} (hp : prot ≤ H0.length) {vN vA x5 x13 x14 : Value} {o5 o14 : Option Nat} {o13 : Nat} {D : DSt}
  (hS : L47 k p xs bs L H0.length H vN vA x5 x13 x14 o5 o14 o13 D.w D.out) (hD : DI k n low D) (h5 : ∀ id, o5 = some id → prot ≤ id) :
  (∃ R X oX e vs H', dstep k (tgt k xs) (accB bs) n low most D = .inr R ∧ lpOf cfg a47 0 prot H0 (s47 p n most H0.length low x5 x13 x14 D.tight D.next, H) = some (.inr (e, vs, H')) ∧ Fin47 e vs X ∧ Own H' 9 1 X oX R.length (sl R) ∧ Rel H0.length o5 oX ∧ Fr H0.length o5 H H') ∨
  (∃ D' y5 y13 y14 o5' o14' o13' H', dstep k (tgt k xs) (accB bs) n low most D = .inl D' ∧ lpOf cfg a47 0 prot H0 (s47 p n most H0.length low x5 x13 x14 D.tight D.next, H) = some (.inl (s47 p n most H0.length low y5 y13 y14 D'.tight D'.next, H')) ∧
   L47 k p xs bs L H0.length H' vN vA y5 y13 y14 o5' o14' o13' D'.w D'.out ∧ DI k n low D' ∧ Rel H0.length o5 o5' ∧ Fr H0.length o5 H H') := by
 obtain ⟨w, t, nx, out⟩ := D
 have hk8 := hG.k8
 have hwl := hD.wl
 have hwk := hD.wk
 have hti := hD.ti
 have hnx := hD.nx
 simp only at hS hwl hwk hti hnx ⊢
 have hbl := (List.getElem?_eq_some_iff.1 hS.bb.hb).1
 -- a letter back
 have back : ∀ (v5 : Value) (o5' : Option Nat) (out' : List (List Nat)) (H2 : AHeap) (u : List Nat) (c : Nat), w = u ++ [c] → L47 k p xs bs L H0.length H2 vN vA v5 x13 x14 o5' o14 o13 w out' →
   IntKind.u8.wrap (((97 + c : Nat) : Int) - 97) = (c : Int) ∧ Fit .i64 (IntKind.u8.wrap (((97 + c : Nat) : Int) - 97)) ∧ Fit .i64 (IntKind.u8.wrap (((97 + c : Nat) : Int) - 97) + 1) ∧ DI k n low ⟨u, false, c + 1, out'⟩ := fun v5 o5' out' H2 u c hw hS2 => by
  have hc : c < k := hwk c (by rw [hw]; simp)
  have e : IntKind.u8.wrap (((97 + c : Nat) : Int) - 97) = (c : Int) := by
   rw [show (((97 + c : Nat) : Int) - 97) = ((c : Nat) : Int) by omega]
   exact u8_small (by omega)
  refine ⟨e, by rw [e]; exact fit64 (by omega) (by omega), by rw [e]; exact fit64 (by omega) (by omega), ⟨?_, fun d hd => hwk d (by rw [hw]; simp [hd]), fun h => (by cases h), ?_⟩⟩
  ·have : w.length = u.length + 1 := by rw [hw]; simp
   show u.length ≤ n
   omega
  ·show c + 1 ≤ k
   omega
 by_cases c1 : most ≤ out.length
 ·refine .inl ⟨out, x5, o5, _, _, H, ?_, ?_, .inl ⟨rfl, rfl⟩, hS.out, Rel.refl _ _, fun _ _ _ => rfl, Nat.le_refl _⟩
  ·unfold dstep; rw [if_pos c1]
  ·obtain ⟨_, _, rfl⟩ := hS.out.len
   obtain ⟨_, _, rfl⟩ := hS.st.len
   obtain ⟨_, _, rfl⟩ := hS.wd.len
   exact f47_L0_8 (by omega)
 by_cases c2 : w.length = n
 ·have hd : dstep k (tgt k xs) (accB bs) n low most ⟨w, t, nx, out⟩ = dpop w (out ++ [w]) := by unfold dstep; rw [if_neg c1, if_pos c2]
  have hcv := conv_word (P := cfg.P) (tb := 104) (ts := 9) (te := 5) (by kernel_rfl) (by kernel_rfl) (by kernel_rfl) hS.wd.rd
  obtain ⟨a', c', o', H2, q1, q2, q3, q4⟩ := out47 hS h5 hp hm (by omega)
  obtain ⟨a5, c5, rfl⟩ := hS.out.len
  obtain ⟨a13, c13, rfl⟩ := hS.st.len
  rcases List.eq_nil_or_concat w with hw | ⟨u, c, hw⟩
  ·subst hw
   have hn0 : n = 0 := by simpa using c2.symm
   subst hn0
   obtain ⟨a14, c14, rfl⟩ := hS.wd.len
   refine .inl ⟨_, _, some o', _, _, H2, by rw [hd]; rfl, f47_L0_0 (by omega) (by simp) hcv q1 (by simp), .inr ⟨rfl, rfl⟩, q2.out, q3, q4⟩
  ·rw [List.concat_eq_append] at hw
   obtain ⟨e1, e2, e3, e4⟩ := back _ _ _ _ u c hw q2
   subst hw
   have el : (u ++ [c]).length = u.length + 1 := by simp
   obtain ⟨id, M, b14, d14, b13, d13, i1, i2, i3, i4, i5⟩ := pop47 q2
   obtain ⟨a14, c14, rfl⟩ := hS.wd.len
   refine .inr ⟨⟨u, false, c + 1, out ++ [u ++ [c]]⟩, _, _, _, some o', o14, o13, H2, ?_, ?_, i5, e4, q3, q4⟩
   ·rw [hd]; unfold dpop; rw [if_neg (by simp)]; simp
   ·have hz := f47_L0_1 (x2 := (n : Int)) (x3 := lw low) (x15 := t) (x16 := (nx : Int)) (x1ap := p) (x1ao := 0) (x1al := 4097) (x6p := H0.length) (x6o := 0) (x6l := 3) (H0 := H0) (show ((out.length : Nat) : Int) < (most : Int) by omega) (by rw [beq_iff_eq]; omega) hcv q1 (by rw [beq_eq_false_iff_ne]; omega) (fit64 (by omega) (by omega)) i1 i2 e2 e3 i3 (fit64 (by omega) (by omega)) i4
    rw [e1] at hz
    exact hz
 ·have hwn : w.length < n := by omega
  obtain ⟨c, hc⟩ : ∃ c, firstC (fun c => canB k (tgt k xs) (accB bs) (n - w.length - 1) (tgt k xs (goS (tgt k xs) w) c)) (k - nx) nx = c := ⟨_, rfl⟩
  have hloop := loop47i hG hL (prot := prot) (x5 := x5) (lo := lw low) (most := (most : Int)) (t := t) hwk hwn hn hS.bb hS.st.rd hS.wd.len (by obtain ⟨a, c, h⟩ := hS.out.len; exact ⟨a, _, c, h⟩) (k - nx) nx (by omega)
  have hfc := (firstC_ge (fun c => canB k (tgt k xs) (accB bs) (n - w.length - 1) (tgt k xs (goS (tgt k xs) w) c)) (k - nx) nx).2.1
  rw [hc] at hloop hfc
  obtain ⟨g0, g1, _, _⟩ := fld3 hS.bb.hb
  have hne : ((w.length : Int) == (n : Int)) = false := by rw [beq_eq_false_iff_ne]; omega
  by_cases c3 : c < k
  ·have hd : dstep k (tgt k xs) (accB bs) n low most ⟨w, t, nx, out⟩ = .inl ⟨w ++ [c], t && (c == low.getD w.length 0), if (t && (c == low.getD w.length 0)) && decide (w.length + 1 < n) then low.getD (w.length + 1) 0 else 0, out⟩ := by
    unfold dstep; rw [if_neg c1, if_neg c2]; simp only [hc]; rw [if_pos c3]
   obtain ⟨idT, LT, idN, LN, b13, d13, H3, b14, d14, o14', H4, t1, t2, n1, n2, p1, p2, p3, p4, p5, p6⟩ := push47 hG hS hp hwk hwn hn c3
   obtain ⟨aN, cN, hvN⟩ := hS.bb.n.len
   rw [hvN] at n1 g1
   obtain ⟨a5, c5, rfl⟩ := hS.out.len
   obtain ⟨a13, c13, rfl⟩ := hS.st.len
   obtain ⟨a14, c14, rfl⟩ := hS.wd.len
   have f1 : Fit .i64 ((((w.length + 1 : Nat)) : Int) - 1) := fit64 (by omega) (by omega)
   have f97 : Fit .i64 (97 + (c : Int)) := fit64 (by omega) (by omega)
   have hout : ((out.length : Nat) : Int) < (most : Int) := by omega
   have hlet : ∀ i, i < low.length → IntKind.u8.wrap (((((lw low).get! (i : Int).toNat).toNat : Int)) - 97) = ((low.getD i 0 : Nat) : Int) := fun i hi => by
    have h1 := hlk i
    have h2 : low.getD i 0 = low[i] := by rw [List.getD_eq_getElem?_getD, List.getElem?_eq_getElem hi]; rfl
    rw [Int.toNat_natCast, lw_get hi (by omega), h2, show (((97 + low[i] : Nat) : Int) - 97) = ((low[i] : Nat) : Int) by omega]
    exact u8_small (by omega)
   have hfl : ∀ i, Fit .i64 (((low.getD i 0 : Nat) : Int)) := fun i => by have := hlk i; exact fit64 (by omega) (by omega)
   have hdi : ∀ (t' : Bool) (nx' : Nat), (t' = true → t = true) → nx' ≤ k → DI k n low ⟨w ++ [c], t', nx', out⟩ := fun t' nx' h1 h2 => ⟨by show (w ++ [c]).length ≤ n; simp; omega, fun d hd => by
    have hd : d ∈ w ++ [c] := hd
    rw [List.mem_append, List.mem_singleton] at hd
    rcases hd with hd | rfl
    ·exact hwk d hd
    ·exact c3, fun h => hti (h1 h), h2⟩
   cases ht : t with
   | false =>
    subst ht
    rw [Bool.false_and, Bool.false_and, if_neg (by simp)] at hd
    exact .inr ⟨_, _, _, _, o5, o14', o13, H4, hd, f47_L0_5 hout hne hloop g0 (by omega) rfl g1 f1 t1 t2 g0 p5 p6 n1 n2 p1 f97 p2, p3, hdi _ _ (fun h => by cases h) (Nat.zero_le _), Rel.refl _ _, p4⟩
   | true =>
    subst ht
    have hll := hti rfl
    have hsz : (w.length : Int) < ((lw low).size : Int) := by rw [lw_size]; omega
    have e0 := hlet w.length (by omega)
    rw [Bool.true_and] at hd
    by_cases h6 : c = low.getD w.length 0
    ·have hq : ((c : Int) == IntKind.u8.wrap (((((lw low).get! (w.length : Int).toNat).toNat : Int)) - 97)) = true := by rw [e0, ← h6]; simp
     have hb : (c == low.getD w.length 0) = true := by rw [← h6]; simp
     rw [hb] at hd
     by_cases h7 : w.length + 1 < n
     ·rw [if_pos (by simp [h7])] at hd
      have e1 := hlet (w.length + 1) (by omega)
      have hz := f47_L0_2 (H0 := H0) hout hne hloop g0 (by omega) rfl (by omega) hsz (by rw [e0]; exact hfl _) g1 f1 t1 t2 g0 p5 p6 n1 n2 p1 f97 p2 hq (by omega) (by omega) (by rw [lw_size]; omega) (by rw [e1]; exact hfl _)
      rw [hq, e1] at hz
      exact .inr ⟨_, _, _, _, o5, o14', o13, H4, hd, hz, p3, hdi _ _ (fun _ => rfl) (by have := hlk (w.length + 1); omega), Rel.refl _ _, p4⟩
     ·rw [if_neg (by simp [h7])] at hd
      have hz := f47_L0_3 (H0 := H0) hout hne hloop g0 (by omega) rfl (by omega) hsz (by rw [e0]; exact hfl _) g1 f1 t1 t2 g0 p5 p6 n1 n2 p1 f97 p2 hq (by omega)
      rw [hq] at hz
      exact .inr ⟨_, _, _, _, o5, o14', o13, H4, hd, hz, p3, hdi _ _ (fun _ => rfl) (Nat.zero_le _), Rel.refl _ _, p4⟩
    ·have hq : ((c : Int) == IntKind.u8.wrap (((((lw low).get! (w.length : Int).toNat).toNat : Int)) - 97)) = false := by rw [e0]; simpa using (by omega : ¬ (c : Int) = ((low.getD w.length 0 : Nat) : Int))
     have hb : (c == low.getD w.length 0) = false := by rw [beq_eq_false_iff_ne]; exact h6
     rw [hb, Bool.false_and, if_neg (by simp)] at hd
     have hz := f47_L0_4 (H0 := H0) hout hne hloop g0 (by omega) rfl (by omega) hsz (by rw [e0]; exact hfl _) g1 f1 t1 t2 g0 p5 p6 n1 n2 p1 f97 p2 hq
     rw [hq] at hz
     exact .inr ⟨_, _, _, _, o5, o14', o13, H4, hd, hz, p3, hdi _ _ (fun h => by cases h) (Nat.zero_le _), Rel.refl _ _, p4⟩
  ·have hd : dstep k (tgt k xs) (accB bs) n low most ⟨w, t, nx, out⟩ = dpop w out := by
    unfold dstep; rw [if_neg c1, if_neg c2]; simp only [hc]; rw [if_neg c3]
   obtain ⟨a5, c5, rfl⟩ := hS.out.len
   obtain ⟨a13, c13, rfl⟩ := hS.st.len
   rcases List.eq_nil_or_concat w with hw | ⟨u, d, hw⟩
   ·subst hw
    obtain ⟨a14, c14, rfl⟩ := hS.wd.len
    exact .inl ⟨out, _, o5, _, _, H, by rw [hd]; rfl, f47_L0_6 (by omega) hne hloop g0 (by omega) (by simp), .inr ⟨rfl, rfl⟩, hS.out, Rel.refl _ _, fun _ _ _ => rfl, Nat.le_refl _⟩
   ·rw [List.concat_eq_append] at hw
    obtain ⟨e1, e2, e3, e4⟩ := back _ _ _ _ u d hw hS
    subst hw
    have el : (u ++ [d]).length = u.length + 1 := by simp
    obtain ⟨id, M, b14, d14, b13, d13, i1, i2, i3, i4, i5⟩ := pop47 hS
    obtain ⟨a14, c14, rfl⟩ := hS.wd.len
    refine .inr ⟨⟨u, false, d + 1, out⟩, _, _, _, o5, o14, o13, H, ?_, ?_, i5, e4, Rel.refl _ _, fun _ _ _ => rfl, Nat.le_refl _⟩
    ·rw [hd]; unfold dpop; rw [if_neg (by simp)]; simp
    ·have hz := f47_L0_7 (H0 := H0) (show ((out.length : Nat) : Int) < (most : Int) by omega) hne hloop g0 (by omega) (by rw [beq_eq_false_iff_ne]; omega) (fit64 (by omega) (by omega)) i1 i2 e2 e3 i3 (fit64 (by omega) (by omega)) i4
     rw [e1] at hz
     exact hz

theorem loop47 {k n p most : Nat} {xs : List Int} {bs : List Bool} (hG : Good k xs bs) {low : List Nat} (hlk : ∀ i, low.getD i 0 < k) (hn : n ≤ 4096) (hm : most ≤ 1000) {L : List Value} (hL : L.length = 4097) {H0 : AHeap} {prot : Nat} (hp : prot ≤ H0.length) {vN vA : Value} {D : DSt} {R : List (List Nat)}
  (hr : Runs k (tgt k xs) (accB bs) n low most D R) : ∀ (x5 x13 x14 : Value) (o5 o14 : Option Nat) (o13 : Nat) (H : AHeap), L47 k p xs bs L H0.length H vN vA x5 x13 x14 o5 o14 o13 D.w D.out → DI k n low D → (∀ id, o5 = some id → prot ≤ id) →
  ∃ X oX e vs H', lpInf (lpOf cfg a47 0 prot H0) (s47 p n most H0.length low x5 x13 x14 D.tight D.next, H) = some (e, vs, H') ∧ Fin47 e vs X ∧ Own H' 9 1 X oX R.length (sl R) ∧ Rel H0.length o5 oX ∧ Fr H0.length o5 H H' := by
 induction hr with
 | @done D R hd =>
  intro x5 x13 x14 o5 o14 o13 H hS hD h5
  rcases body47 hG hlk hn hm hL hp hS hD h5 with ⟨R', X, oX, e, vs, H', h1, h2, h3, h4, h6, h7⟩ | ⟨D', _, _, _, _, _, _, _, h1, _⟩
  ·rw [hd] at h1
   cases h1
   exact ⟨X, oX, e, vs, H', lp_last h2, h3, h4, h6, h7⟩
  ·rw [hd] at h1; cases h1
 | @step D D' R hd hr ih =>
  intro x5 x13 x14 o5 o14 o13 H hS hD h5
  rcases body47 hG hlk hn hm hL hp hS hD h5 with ⟨R', X, oX, e, vs, H', h1, h2, h3, h4, h6, h7⟩ | ⟨D2, y5, y13, y14, o5', o14', o13', H2, h1, h2, h3, h4, h6, h7⟩
  ·rw [hd] at h1; cases h1
  ·rw [hd] at h1
   cases h1
   obtain ⟨X, oX, e, vs, H', g1, g2, g3, g4, g5⟩ := ih y5 y13 y14 o5' o14' o13' H2 h3 h4 (fun id e => by
    cases ho : o5 with
    | none => have := h6.2 ho id e; omega
    | some i => have := h6.1 i ho; rw [this] at e; cases e; exact h5 _ ho)
   exact ⟨X, oX, e, vs, H', lp_next h2 g1, g2, g3, h6.trans g4, h7.trans h6 g5⟩

theorem c47 {k n p most : Nat} {xs : List Int} {bs : List Bool} (hG : Good k xs bs) {low : List Nat} (hlk : ∀ i, low.getD i 0 < k) (hln : low ≠ [] → low.length = n) (hn : n ≤ 4096) (hm : most ≤ 1000) {L : List Value} (hL : L.length = 4097) {H : AHeap} {prot : Nat} (hp : prot ≤ H.length) {vN vA x5 : Value} {o5 : Option Nat} {out : List (List Nat)} (ho : out.length < most)
  (hA : IsA H xs bs vN vA) (hsN : Safe o5 H.length vN) (hsA : Safe o5 H.length vA) (har : H[p]? = some (.cells L 72 4097 .var)) (hp5 : o5 ≠ some p) (hrows : ∀ m, m ≤ 4096 → ∃ v, L[m]? = some v ∧ Rd H 4 1 v bs.length (bll (canL k xs bs m)) ∧ Safe o5 H.length v)
  (hout : Own H 9 1 x5 o5 out.length (sl out)) (h5 : ∀ id, o5 = some id → prot ≤ id) :
  ∃ X oX H', callInf cfg 47 [av k vN vA, fcan p, .int .i64 n, .string (lw low), .int .i64 most, x5] prot H = some (X, H') ∧ Own H' 9 1 X oX ((out ++ allW k (tgt k xs) (accB bs) n 0 (if low = [] then none else some low)).take most).length (sl ((out ++ allW k (tgt k xs) (accB bs) n 0 (if low = [] then none else some low)).take most)) ∧
   Rel H.length o5 oX ∧ Fr H.length o5 H H' := by
 have hn1 := hG.n1
 have hk8 := hG.k8
 have hpl := (List.getElem?_eq_some_iff.1 har).1
 obtain ⟨aN, cN, rfl⟩ := hA.n.len
 obtain ⟨aA, cA, rfl⟩ := hA.a.len
 obtain ⟨HX, hHX⟩ : ∃ HX, HX = H ++ [bx k (.slice aN xs.length cN) (.slice aA bs.length cA)] := ⟨_, rfl⟩
 obtain ⟨HA, hHA⟩ : ∃ HA, HA = HX ++ [AObj.cells [.int .i64 0] 3 [Value.int .i64 0].length .row] := ⟨_, rfl⟩
 have lX : HX.length = H.length + 1 := by rw [hHX]; simp
 have lA : HA.length = H.length + 2 := by rw [hHA]; simp; omega
 have sX : Stay none H HX := by rw [hHX]; exact Stay.app none H _
 have sA : Stay none HX HA := by rw [hHA]; exact Stay.app none HX _
 have sAll := sX.trans sA
 have st : Stk HA 3 (.slice (some ⟨HX.length, 0, some (1 * 1)⟩) 1 1) (some HX.length) 1 (stl (pathS (tgt k xs) [])) := by
  rw [hHA]
  exact (own_new (H := HX) (e := 3) (s := 1) (n := 1) (cs := [.int .i64 0]) rfl (by omega) rfl rfl).stk
 have hB : B47 k xs bs p L H.length o5 HA (.slice aN xs.length cN) (.slice aA bs.length cA) := by
  refine ⟨?_, fun e => ?_, hA.n.stay sAll, hsN, ?_, hpl, hp5, fun m hm => ?_⟩
  ·rw [sA.2 _ (by omega) (by simp), hHX]; exact append_get.1
  ·have := hout
   rw [e] at this
   have := own_lt this
   omega
  ·rw [sAll.2 _ hpl (by simp)]; exact har
  ·obtain ⟨v, h1, h2, h3⟩ := hrows m hm
   exact ⟨v, h1, h2.stay sAll, h3⟩
 have hcan : callInf cfg 46 [.int .i64 0, .int .i64 n, .pointer (some ⟨p, 0, some 4097⟩)] prot HA = some (.bool (canB k (tgt k xs) (accB bs) n 0), HA) :=
  c46 (k := k) (xs := xs) (bs := bs) (s := 0) (m := n) prot hB.ar hL (by obtain ⟨v, h1, h2, _⟩ := hB.rows n hn; exact ⟨v, h1, h2⟩) (by omega) hn
 have h5l : ∀ id, o5 = some id → id < H.length := fun id h => by
  have := hout
  rw [h] at this
  exact own_lt this
 have frA : Fr H.length o5 H HA := stay_fr sAll (Nat.le_refl _) (.inr fun id h => by cases h)
 have houtA : Own HA 9 1 x5 o5 out.length (sl out) := hout.stay sAll (fun id _ h => by cases h)
 cases hc : canB k (tgt k xs) (accB bs) n 0 with
 | false =>
  rw [hc] at hcan
  obtain ⟨a5, c5, rfl⟩ := hout.len
  refine ⟨.slice a5 out.length c5, o5, HA, ?_, ?_, Rel.refl _ _, frA⟩
  ·subst hHA; subst hHX
   exact f47_F_4 all3 hcan rfl
  ·rw [allW_nil _ _ _ _ _ _ hc, List.append_nil, List.take_of_length_le (by omega)]
   exact houtA
 | true =>
  rw [hc] at hcan
  have hr := listed_runs k (tgt k xs) (accB bs) (most := most) hlk hln ho hc
  have hS : L47 k p xs bs L H.length HA (.slice aN xs.length cN) (.slice aA bs.length cA) x5 (.slice (some ⟨HX.length, 0, some (1 * 1)⟩) 1 1) (.slice none 0 0) o5 none HX.length [] out :=
   ⟨hB, houtA, st, stk_nil, by omega, fun id h => (by cases h), fun h => by have := h5l _ h; omega, fun id h => (by cases h), by simp⟩
  have hD : DI k n low ⟨[], !low.isEmpty, low.getD 0 0, out⟩ := ⟨Nat.zero_le _, fun c h => (by cases h), fun h => hln (fun e => by subst e; simp at h), Nat.le_of_lt (hlk 0)⟩
  obtain ⟨X, oX, e, vs, H', g1, g2, g3, g4, g5⟩ := loop47 hG hlk hn hm hL hp hr x5 _ _ o5 none HX.length HA hS hD h5
  refine ⟨X, oX, H', ?_, g3, g4, frA.trans (Rel.refl _ _) g5⟩
  have hnl := lw_nil low
  obtain ⟨aX, cX, hX⟩ := g3.len
  obtain ⟨a5, c5, rfl⟩ := hout.len
  simp only at g1
  cases low with
  | nil =>
   have g1' : lpInf (lpOf cfg a47 0 prot H) ([fcan p, .int .i64 n, .string (lw []), .int .i64 most, .slice a5 out.length c5, .pointer (some ⟨H.length, 0, some 3⟩), .slice (some ⟨HX.length, 0, some (1 * 1)⟩) 1 1, .slice none 0 0, .bool (!(lw []).toList == []), .int .i64 0], HA) = some (e, vs, H') := by rw [hnl]; exact g1
   subst hHA; subst hHX
   rcases g2 with ⟨rfl, rfl⟩ | ⟨rfl, rfl⟩
   ·rw [hX] at g1' ⊢; exact f47_F_2 all3 hcan rfl hnl g1'
   ·rw [hX] at g1' ⊢; exact f47_F_3 all3 hcan rfl hnl g1'
  | cons l r =>
   have h0 := hlk 0
   have hw0 : IntKind.u8.wrap (((((lw (l :: r)).get! (Int.toNat 0)).toNat : Int)) - 97) = (l : Int) := by
    have h1 : l < k := h0
    rw [show Int.toNat 0 = 0 from rfl, lw_get (l := l :: r) (i := 0) (by simp) (by simp; omega)]
    rw [show (((97 + (l :: r)[0] : Nat) : Int) - 97) = ((l : Nat) : Int) by simp; omega]
    exact u8_small (by omega)
   have g1' : lpInf (lpOf cfg a47 0 prot H) ([fcan p, .int .i64 n, .string (lw (l :: r)), .int .i64 most, .slice a5 out.length c5, .pointer (some ⟨H.length, 0, some 3⟩), .slice (some ⟨HX.length, 0, some (1 * 1)⟩) 1 1, .slice none 0 0, .bool (!(lw (l :: r)).toList == []), .int .i64 (IntKind.u8.wrap (((((lw (l :: r)).get! (Int.toNat 0)).toNat : Int)) - 97))], HA) = some (e, vs, H') := by rw [hnl, hw0]; exact g1
   have hsz : (0 : Int) < ((lw (l :: r)).size : Int) := by rw [lw_size]; simp
   have hft : Fit .i64 (IntKind.u8.wrap (((((lw (l :: r)).get! (Int.toNat 0)).toNat : Int)) - 97)) := by rw [hw0]; have : l < k := h0; exact fit64 (by omega) (by omega)
   subst hHA; subst hHX
   rcases g2 with ⟨rfl, rfl⟩ | ⟨rfl, rfl⟩
   ·rw [hX] at g1' ⊢; exact f47_F_0 all3 hcan rfl hnl (by omega) hsz hft g1'
   ·rw [hX] at g1' ⊢; exact f47_F_1 all3 hcan rfl hnl (by omega) hsz hft g1'
end Go.Proofs.Ythjkodbinkiifaa.Am23
set_option linter.unusedVariables false
open Go Go.Proofs.Ythjkodbinkiifaa.Am
namespace Go.Proofs.Ythjkodbinkiifaa.Am23
end Go.Proofs.Ythjkodbinkiifaa.Am23
namespace Go.Proofs.Ythjkodbinkiifaa.Am23
open Go Go.Proofs.Ythjkodbinkiifaa.Am

abbrev lst (k : Nat) (vN vA vc : Value) (low : List Nat) (most : Nat) (vo : Value) : AObj := .cells [.int .i64 k, vN, vA, vc, .string (lw low), .int .i64 most, vo] 79 7 .var
/-- A row that lies apart from what is written. -/
def RowA (q : Nat) (oc oo : Option Nat) (v : Value) : Prop := ∀ id off L n c, v = .slice (some ⟨id, off, some L⟩) n c → id ≠ q ∧ oc ≠ some id ∧ oo ≠ some id
/-- The lister: its table has m rows; what it has listed so far. -/
structure LL (k : Nat) (xs : List Int) (bs : List Bool) (low : List Nat) (most q : Nat) (H : AHeap) (vN vA vc vo : Value) (oc oo : Option Nat) (C : List Value) (out : List (List Nat)) : Prop where
 hb : H[q]? = some (lst k vN vA vc low most vo)
 n : Rd H 3 1 vN xs.length (il xs)
 a : Rd H 4 1 vA bs.length (bll bs)
 sn : RowA q oc oo vN
 sa : RowA q oc oo vA
 can : Own H 23 1 vc oc C.length C
 rows : ∀ j, j < C.length → ∃ v, C[j]? = some v ∧ Rd H 4 1 v bs.length (bll (canL k xs bs j)) ∧ RowA q oc oo v
 out : Own H 9 1 vo oo out.length (sl out)
 lc : ∀ id, oc = some id → q < id
 lo : ∀ id, oo = some id → q < id
 dis : ∀ id, oc = some id → oo ≠ some id
end Go.Proofs.Ythjkodbinkiifaa.Am23
set_option linter.unusedVariables false
open Go Go.Proofs.Ythjkodbinkiifaa.Am
namespace Go.Proofs.Ythjkodbinkiifaa.Am23
end Go.Proofs.Ythjkodbinkiifaa.Am23
namespace Go.Proofs.Ythjkodbinkiifaa.Am23
open Go Go.Proofs.Ythjkodbinkiifaa.Am

end Go.Proofs.Ythjkodbinkiifaa.Am23
namespace Go.Proofs.Ythjkodbinkiifaa.Am23
/-! Which words are listed; in which order; how many. -/
def lexLt : List Nat → List Nat → Bool
 | a :: u, b :: v => decide (a < b) || (decide (a = b) && lexLt u v)
 | _, _ => false
def notLow : Option (List Nat) → List Nat → Bool
 | none, _ => true
 | some l, w => !lexLt w l
theorem mem_fromW {f : Nat → List (List Nat)} {w : List Nat} : ∀ d c, w ∈ fromW f d c ↔ ∃ i, c ≤ i ∧ i < c + d ∧ w ∈ f i
 | 0, c => ⟨fun h => by simp [fromW] at h, fun ⟨i, h1, h2, _⟩ => by omega⟩
 | d + 1, c => by
  rw [fromW, List.mem_append, mem_fromW d (c + 1)]
  constructor
  ·rintro (h | ⟨i, h1, h2, h3⟩)
   ·exact ⟨c, Nat.le_refl _, by omega, h⟩
   ·exact ⟨i, by omega, by omega, h3⟩
  ·rintro ⟨i, h1, h2, h3⟩
   by_cases h : i = c
   ·subst h; exact .inl h3
   ·exact .inr ⟨i, by omega, by omega, h3⟩
section
variable (k : Nat) (stp : Nat → Nat → Nat) (acc : Nat → Bool)

theorem mem_allW : ∀ m s low w, (∀ l, low = some l → l.length = m) → (w ∈ allW k stp acc m s low ↔ w.length = m ∧ (∀ c ∈ w, c < k) ∧ acc (w.foldl stp s) = true ∧ notLow low w = true)
 | 0, s, low, w, hl => by
  have hn : w.length = 0 → notLow low w = true := fun h => by
   cases low with
   | none => rfl
   | some l =>
    have h1 := List.eq_nil_of_length_eq_zero h
    have h2 := List.eq_nil_of_length_eq_zero (hl l rfl)
    rw [h1, h2]; rfl
  rw [allW]
  by_cases ha : acc s = true
  ·rw [if_pos ha, List.mem_singleton]
   refine ⟨fun h => by subst h; exact ⟨rfl, by simp, ha, hn rfl⟩, fun h => List.eq_nil_of_length_eq_zero h.1⟩
  ·rw [if_neg ha]
   refine ⟨fun h => by simp at h, fun h => ?_⟩
   have := List.eq_nil_of_length_eq_zero h.1
   subst this
   exact absurd h.2.2.1 ha
 | m + 1, s, low, w, hl => by
  rw [allW, mem_fromW]
  have htl : ∀ i l, tlO low i = some l → l.length = m := fun i l h => by
   cases low with
   | none => cases h
   | some l0 =>
    cases l0 with
    | nil => cases h
    | cons a r =>
     have := hl _ rfl
     simp only [tlO] at h
     split at h
     ·cases h; simpa using this
     ·cases h
  have hlow : ∀ i v, lowC low i = false → notLow (tlO low i) v = notLow low (i :: v) := fun i v h => by
   cases low with
   | none => rfl
   | some l0 =>
    cases l0 with
    | nil => have := hl _ rfl; simp at this
    | cons a r =>
     have h' : decide (i < a) = false := h
     have h1 : ¬ i < a := by simpa using h'
     by_cases h2 : i = a
     ·subst h2
      simp [tlO, notLow, lexLt]
     ·have : tlO (some (a :: r)) i = none := by simp [tlO, h2]
      rw [this]
      simp [notLow, lexLt, h1, h2]
  have hlow2 : ∀ i v, lowC low i = true → notLow low (i :: v) = false := fun i v h => by
   cases low with
   | none => cases h
   | some l0 =>
    cases l0 with
    | nil => cases h
    | cons a r =>
     have h' : decide (i < a) = true := h
     have h1 : i < a := by simpa using h'
     simp [notLow, lexLt, h1]
  constructor
  ·rintro ⟨i, _, hi, h⟩
   by_cases hc : lowC low i = true
   ·rw [if_pos hc] at h; simp at h
   ·rw [if_neg hc, List.mem_map] at h
    obtain ⟨v, hv, rfl⟩ := h
    obtain ⟨h1, h2, h3, h4⟩ := (mem_allW m _ _ v (htl i)).1 hv
    rw [hlow i v (by simpa using hc)] at h4
    refine ⟨by simp [h1], fun c hcm => ?_, h3, h4⟩
    rw [List.mem_cons] at hcm
    rcases hcm with rfl | hcm
    ·omega
    ·exact h2 c hcm
  ·rintro ⟨h1, h2, h3, h4⟩
   cases w with
   | nil => simp at h1
   | cons i v =>
    refine ⟨i, Nat.zero_le _, by have := h2 i (by simp); omega, ?_⟩
    have hc : ¬ lowC low i = true := fun hc => by rw [hlow2 i v hc] at h4; cases h4
    rw [if_neg hc, List.mem_map]
    exact ⟨v, (mem_allW m _ _ v (htl i)).2 ⟨by simpa using h1, fun c hcm => h2 c (by simp [hcm]), h3, by rw [hlow i v (by simpa using hc)]; exact h4⟩, rfl⟩

end
end Go.Proofs.Ythjkodbinkiifaa.Am23
namespace Go.Proofs.Ythjkodbinkiifaa.Am23
section
variable (k : Nat) (stp : Nat → Nat → Nat) (acc : Nat → Bool) (low : List Nat)
/-- The bound, for the words that are as long as it is. -/
def lowO (n : Nat) : Option (List Nat) := if n = low.length ∧ low ≠ [] then some low else none
/-- All words of n letters, of n + 1 .., not ahead of a word. -/
def tailW : Nat → Nat → List (List Nat)
 | 0, _ => []
 | d + 1, n => allW k stp acc n 0 (lowO low n) ++ tailW d (n + 1)
theorem lowO_len {n : Nat} : ∀ l, lowO low n = some l → l.length = n := fun l h => by
 unfold lowO at h
 split at h
 ·cases h; rename_i h2; exact h2.1.symm
 ·cases h
theorem lowO_not (w : List Nat) : notLow (lowO low w.length) w = true ↔ (w.length = low.length → lexLt w low = false) := by
 unfold lowO
 split
 ·rename_i h
  simp [notLow, h.1]
 ·rename_i h
  simp only [notLow, true_iff]
  intro h1
  have : low = [] := Classical.byContradiction fun h2 => h ⟨h1, h2⟩
  subst this
  cases w <;> rfl
theorem mem_tailW (w : List Nat) : ∀ d n, w ∈ tailW k stp acc low d n ↔ n ≤ w.length ∧ w.length < n + d ∧ (∀ c ∈ w, c < k) ∧ acc (w.foldl stp 0) = true ∧ (w.length = low.length → lexLt w low = false)
 | 0, n => ⟨fun h => by simp [tailW] at h, fun h => by omega⟩
 | d + 1, n => by
  rw [tailW, List.mem_append, mem_allW k stp acc n 0 _ w (lowO_len low), mem_tailW w d (n + 1)]
  constructor
  ·rintro (⟨h1, h2, h3, h4⟩ | ⟨h1, h2, h3⟩)
   ·subst h1
    exact ⟨Nat.le_refl _, by omega, h2, h3, (lowO_not low w).1 h4⟩
   ·exact ⟨by omega, by omega, h3⟩
  ·rintro ⟨h1, h2, h3, h4, h5⟩
   by_cases h : w.length = n
   ·subst h
    exact .inl ⟨rfl, h3, h4, (lowO_not low w).2 h5⟩
   ·exact .inr ⟨by omega, by omega, h3, h4, h5⟩
/-- Length by length, as far as there is room. -/
def runW (most : Nat) : Nat → Nat → List (List Nat) → List (List Nat)
 | 0, _, out => out
 | d + 1, n, out => if out.length < most then runW most d (n + 1) ((out ++ allW k stp acc n 0 (lowO low n)).take most) else out
theorem runW_eq (most : Nat) : ∀ d n out, out.length ≤ most → runW k stp acc low most d n out = (out ++ tailW k stp acc low d n).take most
 | 0, n, out, h => by rw [runW, tailW, List.append_nil, List.take_of_length_le h]
 | d + 1, n, out, h => by
  rw [runW]
  split
  ·rw [runW_eq most d (n + 1) _ (by rw [List.length_take]; omega), tailW, take_app]
  ·rw [List.take_append_of_le_length (by omega), List.take_of_length_le h]
/-- The words that are listed. -/
def wordsL (most : Nat) : List (List Nat) := (tailW k stp acc low (4097 - low.length) low.length).take most

end
end Go.Proofs.Ythjkodbinkiifaa.Am23
set_option linter.unusedVariables false
open Go Go.Proofs.Ythjkodbinkiifaa.Am
namespace Go.Proofs.Ythjkodbinkiifaa.Am23
section
variable {x0a x2 x14a x15 x27 x29 x34a x12 x54a : Int}
variable {x0ba x0ca x14ba x14ca x34ba x34ca z11a x11a x54ba x54ca x60a : Option Addr}
variable {x0bn x0bc x0cn x0cc prot x14bn x14bc x14cn x14cc x34bn x34bc x34cn x34cc x9p x9o x9l z11n z11c x3p x3o x3l x11n x11c x54bn x54bc x54cn x54cc x60n x60c : Nat}
variable {x1 : ByteArray}
variable {H H1 H2 H3 H4 H0 : AHeap}
variable {x35 : Array Value}
variable {x10 : Value}
theorem f23_F_0 (h1 : [vI x0a, vS x0ba x0bn x0bc, vS x0ca x0cn x0cc].all isCell = true) (h2 : getCells (H ++ [vo [vI x0a, vS x0ba x0bn x0bc, vS x0ca x0cn x0cc] 25]) H.length 3 0 3 = some [vI x14a, vS x14ba x14bn x14bc, vS x14ca x14cn x14cc]) (h3 : cI 36 [Value.agg #[vI x14a, vS x14ba x14bn x14bc, vS x14ca x14cn x14cc]] H.length (H ++ [vo [vI x0a, vS x0ba x0bn x0bc, vS x0ca x0cn x0cc] 25]) = some (vI x15, H ++ [vo [vI x0a, vS x0ba x0bn x0bc, vS x0ca x0cn x0cc] 25])) (h4 : (x15 != 0) = true) : callInf cfg 23 [.agg #[.int .i64 x0a, .slice x0ba x0bn x0bc, .slice x0ca x0cn x0cc], .string x1, .int .i64 x2] prot H = some (Value.tuple { toList := [Value.slice none 0 0, Value.int .i64 x15] }, H) :=
 fn_of2 a23 [.e, .v (.agg #[vI x14a, vS x14ba x14bn x14bc, vS x14ca x14cn x14cc]), .v (vI x15), .e, .b true] (ai h1 (ai h2 (ai h3 (ai h4 (Eq.refl ((Value.tuple #[vS none 0 0, vI x15], H) : Value × AHeap)))))) (by kernel_rfl) rfl
theorem f23_F_1 (h1 : [vI x0a, vS x0ba x0bn x0bc, vS x0ca x0cn x0cc].all isCell = true) (h2 : getCells (H ++ [vo [vI x0a, vS x0ba x0bn x0bc, vS x0ca x0cn x0cc] 25]) H.length 3 0 3 = some [vI x14a, vS x14ba x14bn x14bc, vS x14ca x14cn x14cc]) (h3 : cI 36 [Value.agg #[vI x14a, vS x14ba x14bn x14bc, vS x14ca x14cn x14cc]] H.length (H ++ [vo [vI x0a, vS x0ba x0bn x0bc, vS x0ca x0cn x0cc] 25]) = some (vI x15, H ++ [vo [vI x0a, vS x0ba x0bn x0bc, vS x0ca x0cn x0cc] 25])) (h4 : (x15 != 0) = false) (h5 : x2 < 0) : callInf cfg 23 [.agg #[.int .i64 x0a, .slice x0ba x0bn x0bc, .slice x0ca x0cn x0cc], .string x1, .int .i64 x2] prot H = some (Value.tuple { toList := [Value.slice none 0 0, Value.int .i64 1] }, H) :=
 fn_of2 a23 [.e, .v (.agg #[vI x14a, vS x14ba x14bn x14bc, vS x14ca x14cn x14cc]), .v (vI x15), .e, .b false, .e, .b true] (ai h1 (ai h2 (ai h3 (ai h4 (ai (decide_eq_true h5) (Eq.refl ((Value.tuple #[vS none 0 0, vI 1], H) : Value × AHeap))))))) (by kernel_rfl) rfl
theorem f23_F_2 (h1 : [vI x0a, vS x0ba x0bn x0bc, vS x0ca x0cn x0cc].all isCell = true) (h2 : getCells (H ++ [vo [vI x0a, vS x0ba x0bn x0bc, vS x0ca x0cn x0cc] 25]) H.length 3 0 3 = some [vI x14a, vS x14ba x14bn x14bc, vS x14ca x14cn x14cc]) (h3 : cI 36 [Value.agg #[vI x14a, vS x14ba x14bn x14bc, vS x14ca x14cn x14cc]] H.length (H ++ [vo [vI x0a, vS x0ba x0bn x0bc, vS x0ca x0cn x0cc] 25]) = some (vI x15, H ++ [vo [vI x0a, vS x0ba x0bn x0bc, vS x0ca x0cn x0cc] 25])) (h4 : (x15 != 0) = false) (h5 : ¬(x2 < 0)) (h6 : x2 > 1000) : callInf cfg 23 [.agg #[.int .i64 x0a, .slice x0ba x0bn x0bc, .slice x0ca x0cn x0cc], .string x1, .int .i64 x2] prot H = some (Value.tuple { toList := [Value.slice none 0 0, Value.int .i64 6] }, H) :=
 fn_of2 a23 [.e, .v (.agg #[vI x14a, vS x14ba x14bn x14bc, vS x14ca x14cn x14cc]), .v (vI x15), .e, .b false, .e, .b false, .e, .b true] (ai h1 (ai h2 (ai h3 (ai h4 (ai (decide_eq_false h5) (ai (decide_eq_true h6) (Eq.refl ((Value.tuple #[vS none 0 0, vI 6], H) : Value × AHeap)))))))) (by kernel_rfl) rfl
theorem f23_F_3 (h1 : [vI x0a, vS x0ba x0bn x0bc, vS x0ca x0cn x0cc].all isCell = true) (h2 : getCells (H ++ [vo [vI x0a, vS x0ba x0bn x0bc, vS x0ca x0cn x0cc] 25]) H.length 3 0 3 = some [vI x14a, vS x14ba x14bn x14bc, vS x14ca x14cn x14cc]) (h3 : cI 36 [Value.agg #[vI x14a, vS x14ba x14bn x14bc, vS x14ca x14cn x14cc]] H.length (H ++ [vo [vI x0a, vS x0ba x0bn x0bc, vS x0ca x0cn x0cc] 25]) = some (vI x15, H ++ [vo [vI x0a, vS x0ba x0bn x0bc, vS x0ca x0cn x0cc] 25])) (h4 : (x15 != 0) = false) (h5 : ¬(x2 < 0)) (h6 : ¬(x2 > 1000)) (h7 : getCells (H ++ [vo [vI x0a, vS x0ba x0bn x0bc, vS x0ca x0cn x0cc] 25]) H.length 3 (0 + 0) 1 = some [vI x27]) (h8 : cI 44 [vI x27, Value.string x1] H.length (H ++ [vo [vI x0a, vS x0ba x0bn x0bc, vS x0ca x0cn x0cc] 25]) = some (vI x29, H ++ [vo [vI x0a, vS x0ba x0bn x0bc, vS x0ca x0cn x0cc] 25])) (h9 : (x29 != 0) = true) : callInf cfg 23 [.agg #[.int .i64 x0a, .slice x0ba x0bn x0bc, .slice x0ca x0cn x0cc], .string x1, .int .i64 x2] prot H = some (Value.tuple { toList := [Value.slice none 0 0, Value.int .i64 21] }, H) :=
 fn_of2 a23 [.e, .v (.agg #[vI x14a, vS x14ba x14bn x14bc, vS x14ca x14cn x14cc]), .v (vI x15), .e, .b false, .e, .b false, .e, .b false, .v (vI x27), .v (vI x29), .e, .b true] (ai h1 (ai h2 (ai h3 (ai h4 (ai (decide_eq_false h5) (ai (decide_eq_false h6) (ai h7 (ai h8 (ai h9 (Eq.refl ((Value.tuple #[vS none 0 0, vI 21], H) : Value × AHeap))))))))))) (by kernel_rfl) rfl
theorem f23_F_4 (h1 : [vI x0a, vS x0ba x0bn x0bc, vS x0ca x0cn x0cc].all isCell = true) (h2 : getCells (H ++ [vo [vI x0a, vS x0ba x0bn x0bc, vS x0ca x0cn x0cc] 25]) H.length 3 0 3 = some [vI x14a, vS x14ba x14bn x14bc, vS x14ca x14cn x14cc]) (h3 : cI 36 [Value.agg #[vI x14a, vS x14ba x14bn x14bc, vS x14ca x14cn x14cc]] H.length (H ++ [vo [vI x0a, vS x0ba x0bn x0bc, vS x0ca x0cn x0cc] 25]) = some (vI x15, H ++ [vo [vI x0a, vS x0ba x0bn x0bc, vS x0ca x0cn x0cc] 25])) (h4 : (x15 != 0) = false) (h5 : ¬(x2 < 0)) (h6 : ¬(x2 > 1000)) (h7 : getCells (H ++ [vo [vI x0a, vS x0ba x0bn x0bc, vS x0ca x0cn x0cc] 25]) H.length 3 (0 + 0) 1 = some [vI x27]) (h8 : cI 44 [vI x27, Value.string x1] H.length (H ++ [vo [vI x0a, vS x0ba x0bn x0bc, vS x0ca x0cn x0cc] 25]) = some (vI x29, H ++ [vo [vI x0a, vS x0ba x0bn x0bc, vS x0ca x0cn x0cc] 25])) (h9 : (x29 != 0) = false) (h10 : (↑x1.size : Int) > 4096) : callInf cfg 23 [.agg #[.int .i64 x0a, .slice x0ba x0bn x0bc, .slice x0ca x0cn x0cc], .string x1, .int .i64 x2] prot H = some (Value.tuple { toList := [Value.slice none 0 0, Value.int .i64 0] }, H) :=
 fn_of2 a23 [.e, .v (.agg #[vI x14a, vS x14ba x14bn x14bc, vS x14ca x14cn x14cc]), .v (vI x15), .e, .b false, .e, .b false, .e, .b false, .v (vI x27), .v (vI x29), .e, .b false, .e, .e, .b true] (ai h1 (ai h2 (ai h3 (ai h4 (ai (decide_eq_false h5) (ai (decide_eq_false h6) (ai h7 (ai h8 (ai h9 (ai (decide_eq_true h10) (Eq.refl ((Value.tuple #[vS none 0 0, vI 0], H) : Value × AHeap)))))))))))) (by kernel_rfl) rfl
theorem f23_F_5 (rv : Value) (rH : AHeap) (h1 : [vI x0a, vS x0ba x0bn x0bc, vS x0ca x0cn x0cc].all isCell = true) (h2 : getCells (H ++ [vo [vI x0a, vS x0ba x0bn x0bc, vS x0ca x0cn x0cc] 25]) H.length 3 0 3 = some [vI x14a, vS x14ba x14bn x14bc, vS x14ca x14cn x14cc]) (h3 : cI 36 [Value.agg #[vI x14a, vS x14ba x14bn x14bc, vS x14ca x14cn x14cc]] H.length (H ++ [vo [vI x0a, vS x0ba x0bn x0bc, vS x0ca x0cn x0cc] 25]) = some (vI x15, H ++ [vo [vI x0a, vS x0ba x0bn x0bc, vS x0ca x0cn x0cc] 25])) (h4 : (x15 != 0) = false) (h5 : ¬(x2 < 0)) (h6 : ¬(x2 > 1000)) (h7 : getCells (H ++ [vo [vI x0a, vS x0ba x0bn x0bc, vS x0ca x0cn x0cc] 25]) H.length 3 (0 + 0) 1 = some [vI x27]) (h8 : cI 44 [vI x27, Value.string x1] H.length (H ++ [vo [vI x0a, vS x0ba x0bn x0bc, vS x0ca x0cn x0cc] 25]) = some (vI x29, H ++ [vo [vI x0a, vS x0ba x0bn x0bc, vS x0ca x0cn x0cc] 25])) (h9 : (x29 != 0) = false) (h10 : ¬((↑x1.size : Int) > 4096)) (h11 : getCells (H ++ [vo [vI x0a, vS x0ba x0bn x0bc, vS x0ca x0cn x0cc] 25]) H.length 3 0 3 = some [vI x34a, vS x34ba x34bn x34bc, vS x34ca x34cn x34cc]) (h12 : cI 45 [Value.agg #[vI x34a, vS x34ba x34bn x34bc, vS x34ca x34cn x34cc]] H.length (H ++ [vo [vI x0a, vS x0ba x0bn x0bc, vS x0ca x0cn x0cc] 25]) = some (Value.agg x35, H1)) (h13 : aalloc cfg.P 72 H1 = some (vP x9p x9o x9l, H2)) (h14 : x35.toList.length = 4097) (h15 : setCells H2 H.length x9p x9l x9o x35.toList = some H3) (h16 : lI a23 0 prot H ([Value.string x1, vI x2, vP H.length 0 3, Value.func (Fn.func 46) #[] #[vP x9p x9o x9l], vS none 0 0, vI (↑x1.size : Int)], H3) = some (Ex.exit 1, [vS z11a z11n z11c], H4)) (h17 : pfin a23 H [vS z11a z11n z11c, vI 0] H4 = (rv, rH)) : callInf cfg 23 [.agg #[.int .i64 x0a, .slice x0ba x0bn x0bc, .slice x0ca x0cn x0cc], .string x1, .int .i64 x2] prot H = some (rv, rH) :=
 fn_of2 a23 [.e, .v (.agg #[vI x14a, vS x14ba x14bn x14bc, vS x14ca x14cn x14cc]), .v (vI x15), .e, .b false, .e, .b false, .e, .b false, .v (vI x27), .v (vI x29), .e, .b false, .e, .e, .b false, .v (.agg #[vI x34a, vS x34ba x34bn x34bc, vS x34ca x34cn x34cc]), .r (.agg x35) H1, .r (vP x9p x9o x9l) H2, .h H3, .e, .lo (.exit 1, [vS z11a z11n z11c], H4)] (ai h1 (ai h2 (ai h3 (ai h4 (ai (decide_eq_false h5) (ai (decide_eq_false h6) (ai h7 (ai h8 (ai h9 (ai (decide_eq_false h10) (ai h11 (ai h12 (ai h13 (ai h14 (ai h15 (ai h16 h17)))))))))))))))) (by kernel_rfl) rfl
theorem f23_L0_0 (h1 : x12 ≤ 4096) (h2 : (↑x11n : Int) < x2) (h3 : (x12 == (↑x1.size : Int)) = true) (h4 : getCells H x3p x3l x3o 3 = some [vI x54a, vS x54ba x54bn x54bc, vS x54ca x54cn x54cc]) (h5 : cI 47 [Value.agg #[vI x54a, vS x54ba x54bn x54bc, vS x54ca x54cn x54cc], x10, vI x12, Value.string x1, vI x2, vS x11a x11n x11c] H0.length H = some (vS x60a x60n x60c, H2)) (h6 : Fit .i64 (x12 + 1)) : lpOf cfg a23 0 prot H0 ([.string x1, .int .i64 x2, .pointer (some ⟨x3p, x3o, some x3l⟩), x10, .slice x11a x11n x11c, .int .i64 x12], H) = some (Sum.inl ([Value.string x1, Value.int .i64 x2, Value.pointer (some ⟨x3p, x3o, some x3l⟩), x10, Value.slice x60a x60n x60c, Value.int .i64 (x12 + 1)], H2)) :=
 lp_of2 [.e, .b true, .b true, .e, .b true, .b true, .e, .b true, .b true, .e, .e, .b true, .v (.agg #[vI x54a, vS x54ba x54bn x54bc, vS x54ca x54cn x54cc]), .r (vS x60a x60n x60c) H2, .e] (ai (decide_eq_true h1) (ai (decide_eq_true h1) (ai (decide_eq_true h1) (ai (decide_eq_true h1) (ai (decide_eq_true h1) (ai (decide_eq_true h2) (ai h3 (ai h4 (ai h5 (ai h6 (Eq.refl (Sum.inl ([Value.string x1, vI x2, vP x3p x3o x3l, x10, vS x60a x60n x60c, vI (x12 + 1)], H2) : LS ⊕ LO)))))))))))) (by kernel_rfl)
theorem f23_L0_1 (h1 : x12 ≤ 4096) (h2 : (↑x11n : Int) < x2) (h3 : (x12 == (↑x1.size : Int)) = false) (h4 : getCells H x3p x3l x3o 3 = some [vI x54a, vS x54ba x54bn x54bc, vS x54ca x54cn x54cc]) (h5 : cI 47 [Value.agg #[vI x54a, vS x54ba x54bn x54bc, vS x54ca x54cn x54cc], x10, vI x12, vE, vI x2, vS x11a x11n x11c] H0.length H = some (vS x60a x60n x60c, H2)) (h6 : Fit .i64 (x12 + 1)) : lpOf cfg a23 0 prot H0 ([.string x1, .int .i64 x2, .pointer (some ⟨x3p, x3o, some x3l⟩), x10, .slice x11a x11n x11c, .int .i64 x12], H) = some (Sum.inl ([Value.string x1, Value.int .i64 x2, Value.pointer (some ⟨x3p, x3o, some x3l⟩), x10, Value.slice x60a x60n x60c, Value.int .i64 (x12 + 1)], H2)) :=
 lp_of2 [.e, .b true, .b true, .e, .b true, .b true, .e, .b true, .b true, .e, .e, .b false, .v (.agg #[vI x54a, vS x54ba x54bn x54bc, vS x54ca x54cn x54cc]), .r (vS x60a x60n x60c) H2, .e] (ai (decide_eq_true h1) (ai (decide_eq_true h1) (ai (decide_eq_true h1) (ai (decide_eq_true h1) (ai (decide_eq_true h1) (ai (decide_eq_true h2) (ai h3 (ai h4 (ai h5 (ai h6 (Eq.refl (Sum.inl ([Value.string x1, vI x2, vP x3p x3o x3l, x10, vS x60a x60n x60c, vI (x12 + 1)], H2) : LS ⊕ LO)))))))))))) (by kernel_rfl)
theorem f23_L0_2 (h1 : x12 ≤ 4096) (h2 : ¬((↑x11n : Int) < x2)) : lpOf cfg a23 0 prot H0 ([.string x1, .int .i64 x2, .pointer (some ⟨x3p, x3o, some x3l⟩), x10, .slice x11a x11n x11c, .int .i64 x12], H) = some (Sum.inr (Ex.exit 1, [Value.slice x11a x11n x11c], H)) :=
 lp_of2 [.e, .b true, .b true, .e, .b true, .b true, .e, .b true, .b false] (ai (decide_eq_true h1) (ai (decide_eq_true h1) (ai (decide_eq_true h1) (ai (decide_eq_true h1) (ai (decide_eq_true h1) (ai (decide_eq_false h2) (Eq.refl (Sum.inr (Ex.exit 1, [vS x11a x11n x11c], H) : LS ⊕ LO)))))))) (by kernel_rfl)
theorem f23_L0_3 (h1 : ¬(x12 ≤ 4096)) : lpOf cfg a23 0 prot H0 ([.string x1, .int .i64 x2, .pointer (some ⟨x3p, x3o, some x3l⟩), x10, .slice x11a x11n x11c, .int .i64 x12], H) = some (Sum.inr (Ex.exit 1, [Value.slice x11a x11n x11c], H)) :=
 lp_of2 [.e, .b false, .b false, .b false, .b false, .b false, .b false] (ai (decide_eq_false h1) (ai (decide_eq_false h1) (ai (decide_eq_false h1) (ai (decide_eq_false h1) (ai (decide_eq_false h1) (ai (Eq.refl false) (Eq.refl (Sum.inr (Ex.exit 1, [vS x11a x11n x11c], H) : LS ⊕ LO)))))))) (by kernel_rfl)
end
end Go.Proofs.Ythjkodbinkiifaa.Am23
namespace Go.Proofs.Ythjkodbinkiifaa.Am23
open Go Go.Proofs.Ythjkodbinkiifaa.Am

/-- The letters of a text. -/
def letO (w : ByteArray) : List Nat := (List.range w.size).map fun j => (w.get! j).toNat - 97
theorem letO_len (w : ByteArray) : (letO w).length = w.size := by simp [letO]
theorem letO_ok {k : Nat} {w : ByteArray} (h : okW k w = true) : lw (letO w) = w ∧ ∀ c ∈ letO w, c < k := by
 unfold okW at h
 rw [okFrom_iff] at h
 refine ⟨?_, fun c hc => ?_⟩
 ·apply ByteArray.ext
  apply Array.ext
  ·simp [lw, bstr, letO]
  ·intro i h1 h2
   have hi : i < w.size := h2
   have h3 := h i (by omega) (by omega)
   have e : w.get! i = w.data[i] := by
    show w.data[i]! = w.data[i]
    exact getElem!_pos w.data i h2
   rw [e] at h3
   simp only [lw, bstr, letO, List.getElem_toArray, List.getElem_map, List.getElem_range]
   apply UInt8.toNat_inj.1
   rw [UInt8.toNat_ofNat', e]
   have := w.data[i].toNat_lt
   omega
 ·unfold letO at hc
  rw [List.mem_map] at hc
  obtain ⟨j, hj, rfl⟩ := hc
  rw [List.mem_range] at hj
  have := h j (by omega) (by omega)
  omega
/-- What Words answers. -/
def wordsV (k : Int) (xs : List Int) (bs : List Bool) (w : ByteArray) (most : Int) : List (List Nat) × Int :=
 if chkG k xs bs ≠ 0 then ([], chkG k xs bs) else if most < 0 then ([], 1) else if most > 1000 then ([], 6) else if chkW k w ≠ 0 then ([], 21) else
 if (w.size : Int) > 4096 then ([], 0) else (wordsL k.toNat (tgt k.toNat xs) (accB bs) (letO w) most.toNat, 0)

theorem fr_stay {o : Option Nat} {H H' : AHeap} (h : Fr H.length o H H') : Stay o H H' := ⟨h.2, fun q hq hne => h.1 q hq hne⟩

theorem loop23 {k p most : Nat} {xs : List Int} {bs : List Bool} (hG : Good k xs bs) {low : List Nat} (hlk : ∀ c ∈ low, c < k) (hm : most ≤ 1000) {L : List Value} (hL : L.length = 4097) {H0 : AHeap} {prot : Nat} {vN vA : Value} (hpb : H0.length < p) (hlN : Low H0.length vN) (hlA : Low H0.length vA) : ∀ (d n : Nat) (out : List (List Nat)) (x5 : Value) (o5 : Option Nat) (H : AHeap), n + d = 4097 → out.length ≤ most →
  H[H0.length]? = some (bx k vN vA) → IsA H xs bs vN vA → H[p]? = some (.cells L 72 4097 .var) → (∀ m, m ≤ 4096 → ∃ v, L[m]? = some v ∧ Rd H 4 1 v bs.length (bll (canL k xs bs m)) ∧ Low p v) → Own H 9 1 x5 o5 out.length (sl out) → (∀ id, o5 = some id → p < id) →
  ∃ X oX H', lpInf (lpOf cfg a23 0 prot H0) ([.string (lw low), .int .i64 most, .pointer (some ⟨H0.length, 0, some 3⟩), fcan p, x5, .int .i64 n], H) = some (.exit 1, [X], H') ∧ Own H' 9 1 X oX (runW k (tgt k xs) (accB bs) low most d n out).length (sl (runW k (tgt k xs) (accB bs) low most d n out)) ∧ (∀ id, oX = some id → p < id) ∧ (∀ q, q ≤ p → H'[q]? = H[q]?) ∧ H.length ≤ H'.length
 | 0, n, out, x5, o5, H, hn, ho, hb, hA, hp, hr, hout, h5 => by
  obtain ⟨a5, c5, rfl⟩ := hout.len
  exact ⟨_, o5, H, lp_last (f23_L0_3 (by omega)), hout, h5, fun _ _ => rfl, Nat.le_refl _⟩
 | d + 1, n, out, x5, o5, H, hn, ho, hb, hA, hp, hr, hout, h5 => by
  rw [runW]
  by_cases hlt : out.length < most
  ·rw [if_pos hlt]
   have lb := (List.getElem?_eq_some_iff.1 hb).1
   have lp := (List.getElem?_eq_some_iff.1 hp).1
   have hk1 := hG.k1
   have saf : ∀ v b, Low b v → b ≤ p → Safe o5 H.length v := fun v b hl hb' id off L n c e => ⟨by have := hl id off L n c e; omega, fun e2 => by have := hl id off L n c e; have := h5 id e2; omega⟩
   have key : ∀ low' : List Nat, (∀ c ∈ low', c < k) → (low' ≠ [] → low'.length = n) → (if low' = [] then none else some low') = lowO low n →
     ∃ X oX H', callInf cfg 47 [av k vN vA, fcan p, .int .i64 n, .string (lw low'), .int .i64 most, x5] H0.length H = some (X, H') ∧ Own H' 9 1 X oX ((out ++ allW k (tgt k xs) (accB bs) n 0 (lowO low n)).take most).length (sl ((out ++ allW k (tgt k xs) (accB bs) n 0 (lowO low n)).take most)) ∧ Rel H.length o5 oX ∧ Fr H.length o5 H H' := fun low' h1 h2 h3 => by
    rw [← h3]
    refine c47 hG (fun i => ?_) h2 (by omega) hm hL (by omega) hlt hA (saf _ _ hlN (by omega)) (saf _ _ hlA (by omega)) hp (fun e => by have := h5 _ e; omega) (fun m hm => ?_) hout (fun id e => by have := h5 _ e; omega)
    ·rw [List.getD_eq_getElem?_getD]
     cases hi : low'[i]? with
     | none => simp; omega
     | some c => simp; exact h1 c (List.mem_of_getElem? hi)
    ·obtain ⟨v, q1, q2, q3⟩ := hr m hm
     exact ⟨v, q1, q2, saf _ _ q3 (Nat.le_refl _)⟩
   have fin : ∀ (X : Value) (oX : Option Nat) (H2 : AHeap), Own H2 9 1 X oX ((out ++ allW k (tgt k xs) (accB bs) n 0 (lowO low n)).take most).length (sl ((out ++ allW k (tgt k xs) (accB bs) n 0 (lowO low n)).take most)) → Rel H.length o5 oX → Fr H.length o5 H H2 →
     lpOf cfg a23 0 prot H0 ([.string (lw low), .int .i64 most, .pointer (some ⟨H0.length, 0, some 3⟩), fcan p, x5, .int .i64 n], H) = some (.inl ([.string (lw low), .int .i64 most, .pointer (some ⟨H0.length, 0, some 3⟩), fcan p, X, .int .i64 ((n : Int) + 1)], H2)) →
     ∃ X oX H', lpInf (lpOf cfg a23 0 prot H0) ([.string (lw low), .int .i64 most, .pointer (some ⟨H0.length, 0, some 3⟩), fcan p, x5, .int .i64 n], H) = some (.exit 1, [X], H') ∧ Own H' 9 1 X oX (runW k (tgt k xs) (accB bs) low most d (n + 1) ((out ++ allW k (tgt k xs) (accB bs) n 0 (lowO low n)).take most)).length (sl (runW k (tgt k xs) (accB bs) low most d (n + 1) ((out ++ allW k (tgt k xs) (accB bs) n 0 (lowO low n)).take most))) ∧ (∀ id, oX = some id → p < id) ∧ (∀ q, q ≤ p → H'[q]? = H[q]?) ∧ H.length ≤ H'.length := fun X oX H2 q1 q2 q3 q4 => by
    have st := fr_stay q3
    have hsame : ∀ q, q ≤ p → H2[q]? = H[q]? := fun q hq => st.2 q (by omega) (fun e => by have := h5 q e; omega)
    have hrd : ∀ (v : Value) (e n : Nat) (cs : List Value), Low p v → Rd H e 1 v n cs → Rd H2 e 1 v n cs := fun v e n cs hl hv => hv.stayNe st (fun id off L n c e1 e2 => by have := hl id off L n c e1; have := h5 id e2; omega)
    obtain ⟨X', oX', H', u1, u2, u3, u4, u5⟩ := loop23 hG hlk hm hL (prot := prot) hpb hlN hlA d (n + 1) _ X oX H2 (by omega) (by rw [List.length_take]; omega) (by rw [hsame _ (by omega)]; exact hb) ⟨hrd _ _ _ _ (hlN.mono (by omega)) hA.n, hrd _ _ _ _ (hlA.mono (by omega)) hA.a⟩ (by rw [hsame _ (Nat.le_refl _)]; exact hp)
     (fun m hm => by obtain ⟨v, g1, g2, g3⟩ := hr m hm; exact ⟨v, g1, hrd _ _ _ _ g3 g2, g3⟩) q1 (fun id e => by
      cases ho5 : o5 with
      | none => have := q2.2 ho5 id e; omega
      | some i => rw [q2.1 i ho5] at e; have := Option.some.inj e; have := h5 i ho5; omega)
    exact ⟨X', oX', H', lp_next q4 u1, u2, u3, fun q hq => by rw [u4 q hq, hsame q hq], by have := q3.2; omega⟩
   obtain ⟨_, _, _, g3⟩ := fld3 hb
   have hN := hA.n.len
   have hA' := hA.a.len
   have h5l := hout.len
   by_cases he : n = low.length
   ·have hlo : (if low = [] then none else some low) = lowO low n := by
     unfold lowO
     by_cases h0 : low = []
     ·rw [if_pos h0, if_neg (by simp [h0])]
     ·rw [if_neg h0, if_pos ⟨he, h0⟩]
    obtain ⟨X, oX, H2, q1, q2, q3, q4⟩ := key low hlk (fun _ => he.symm) hlo
    refine fin X oX H2 q2 q3 q4 ?_
    obtain ⟨aN, cN, rfl⟩ := hN
    obtain ⟨aA, cA, rfl⟩ := hA'
    obtain ⟨a5, c5, rfl⟩ := h5l
    obtain ⟨aX, cX, rfl⟩ := q2.len
    exact f23_L0_0 (by omega) (by omega) (by rw [lw_size, he]; simp) g3 q1 (fit64 (by omega) (by omega))
   ·have hlo : (if ([] : List Nat) = [] then none else some []) = lowO low n := by
     unfold lowO
     rw [if_pos rfl, if_neg (fun h => he h.1)]
    obtain ⟨X, oX, H2, q1, q2, q3, q4⟩ := key [] (by simp) (fun h => absurd rfl h) hlo
    refine fin X oX H2 q2 q3 q4 ?_
    obtain ⟨aN, cN, rfl⟩ := hN
    obtain ⟨aA, cA, rfl⟩ := hA'
    obtain ⟨a5, c5, rfl⟩ := h5l
    obtain ⟨aX, cX, rfl⟩ := q2.len
    exact f23_L0_1 (by omega) (by omega) (by rw [lw_size, beq_eq_false_iff_ne]; omega) g3 q1 (fit64 (by omega) (by omega))
  ·rw [if_neg hlt]
   obtain ⟨a5, c5, rfl⟩ := hout.len
   exact ⟨_, o5, H, lp_last (f23_L0_2 (by omega) (by omega)), hout, h5, fun _ _ => rfl, Nat.le_refl _⟩

theorem c23 {k : Int} {xs : List Int} {bs : List Bool} {vN vA : Value} (w : ByteArray) (most : Int) (prot : Nat) (H : AHeap) (hA : IsA H xs bs vN vA) :
  ∃ X oX H', callInf cfg 23 [av k vN vA, .string w, .int .i64 most] prot H = some (.tuple #[X, .int .i64 (wordsV k xs bs w most).2], H') ∧ Own H' 9 1 X oX (wordsV k xs bs w most).1.length (sl (wordsV k xs bs w most).1) ∧ Stay none H H' ∧ (∀ id, oX = some id → H.length ≤ id) := by
 have lN := hA.n.low
 have lA := hA.a.low
 obtain ⟨aN, cN, rfl⟩ := hA.n.len
 obtain ⟨aA, cA, rfl⟩ := hA.a.len
 obtain ⟨HX, hHX⟩ : ∃ HX, HX = H ++ [bx k (.slice aN xs.length cN) (.slice aA bs.length cA)] := ⟨_, rfl⟩
 have lX : HX.length = H.length + 1 := by rw [hHX]; simp
 have sX : Stay none H HX := by rw [hHX]; exact Stay.app none H _
 have hgX : HX[H.length]? = some (bx k (.slice aN xs.length cN) (.slice aA bs.length cA)) := by rw [hHX]; exact append_get.1
 obtain ⟨g0, _, _, g3⟩ := fld3 hgX
 have hAX := hA.stay sX
 have h36 := c36 (k := k) H.length HX hAX
 have h44 := c44 k w H.length HX
 have nil : ∀ e : Int, callInf cfg 23 [av k (.slice aN xs.length cN) (.slice aA bs.length cA), .string w, .int .i64 most] prot H = some (.tuple #[.slice none 0 0, .int .i64 e], H) → wordsV k xs bs w most = ([], e) →
   ∃ X oX H', callInf cfg 23 [av k (.slice aN xs.length cN) (.slice aA bs.length cA), .string w, .int .i64 most] prot H = some (.tuple #[X, .int .i64 (wordsV k xs bs w most).2], H') ∧ Own H' 9 1 X oX (wordsV k xs bs w most).1.length (sl (wordsV k xs bs w most).1) ∧ Stay none H H' ∧ (∀ id, oX = some id → H.length ≤ id) := fun e h1 h2 => by
  rw [h2]
  exact ⟨_, none, H, h1, own_nil, Stay.refl _ _, fun id h => by cases h⟩
 by_cases c1 : chkG k xs bs = 0
 ·have e1 : (chkG k xs bs != 0) = false := by simp [c1]
  by_cases c2 : most < 0
  ·exact nil 1 (by subst hHX; exact f23_F_1 all3 g3 h36 e1 c2) (by unfold wordsV; rw [if_neg (by simp [c1]), if_pos c2])
  by_cases c3 : most > 1000
  ·exact nil 6 (by subst hHX; exact f23_F_2 all3 g3 h36 e1 c2 c3) (by unfold wordsV; rw [if_neg (by simp [c1]), if_neg c2, if_pos c3])
  by_cases c4 : chkW k w = 0
  ·have e4 : (chkW k w != 0) = false := by simp [c4]
   by_cases c5 : (w.size : Int) > 4096
   ·exact nil 0 (by subst hHX; exact f23_F_4 all3 g3 h36 e1 c2 c3 g0 h44 e4 c5) (by unfold wordsV; rw [if_neg (by simp [c1]), if_neg c2, if_neg c3, if_neg (by simp [c4]), if_pos c5])
   have hV : wordsV k xs bs w most = (wordsL k.toNat (tgt k.toNat xs) (accB bs) (letO w) most.toNat, 0) := by unfold wordsV; rw [if_neg (by simp [c1]), if_neg c2, if_neg c3, if_neg (by simp [c4]), if_neg c5]
   obtain ⟨k, rfl, hG⟩ := good_of c1
   obtain ⟨most, rfl⟩ : ∃ m : Nat, most = m := ⟨most.toNat, by omega⟩
   simp only [Int.toNat_natCast] at hV
   have hok : okW k w = true := by
    unfold chkW at c4
    rw [if_neg (by have := hG.k1; have := hG.k8; omega), Int.toNat_natCast] at c4
    split at c4
    ·assumption
    ·cases c4
   obtain ⟨hlw, hlk⟩ := letO_ok hok
   obtain ⟨L, H1, r1, r2, r3, r4, r5⟩ := c45 hG H.length HX hAX
   obtain ⟨H2, hH2⟩ : ∃ H2, H2 = H1 ++ [AObj.cells (List.replicate 4097 (.slice none 0 0)) 72 4097 .var] := ⟨_, rfl⟩
   have a1 : aalloc cfg.P 72 H1 = some (.pointer (some ⟨H1.length, 0, some 4097⟩), H2) := by rw [hH2]; exact alloc_arr z72 rfl H1
   have s2 : Stay none H1 H2 := by rw [hH2]; exact Stay.app none H1 _
   have gp : H2[H1.length]? = some (.cells (List.replicate 4097 (.slice none 0 0)) 72 4097 .var) := by rw [hH2]; exact append_get.1
   have l5 := r5.1
   obtain ⟨H3, hH3⟩ : ∃ H3, H3 = H2.set H1.length (.cells L 72 4097 .var) := ⟨_, rfl⟩
   have l2 : H2.length = H1.length + 1 := by rw [hH2, List.length_append, List.length_singleton]
   have s3 : Stay (some H1.length) H2 H3 := by rw [hH3]; exact set_stay
   have hput : setCells H2 H.length H1.length 4097 0 L = some H3 := by rw [hH3]; exact arr_put gp List.length_replicate (by omega) r2 r3
   have gp3 : H3[H1.length]? = some (.cells L 72 4097 .var) := by rw [hH3, List.getElem?_set_self (by omega)]
   have hfr : ∀ (v : Value) (e n : Nat) (cs : List Value), Rd H1 e 1 v n cs → Rd H3 e 1 v n cs := fun v e n cs hv => (hv.stay s2).stayLow hv.low s3 (fun id h => by have := Option.some.inj h; omega)
   have hA1 := hAX.stay r5
   obtain ⟨X, oX, H', u1, u2, u3, u4, u5⟩ := loop23 hG hlk (show most ≤ 1000 by omega) r2 (prot := prot) (H0 := H) (p := H1.length) (by omega) lN lA (4097 - (letO w).length) (letO w).length [] (.slice none 0 0) none H3 (by rw [letO_len]; omega) (Nat.zero_le _)
    (by rw [s3.2 _ (by omega) (fun h => by have := Option.some.inj h; omega), s2.2 _ (by omega) (by simp), r5.2 _ (by omega) (by simp)]; exact hgX) ⟨hfr _ _ _ _ hA1.n, hfr _ _ _ _ hA1.a⟩ gp3 (fun m hm => by obtain ⟨v, g1, g2⟩ := r4 m hm; exact ⟨v, g1, hfr _ _ _ _ g2, g2.low⟩) own_nil (fun id h => by cases h)
   rw [runW_eq _ _ _ _ _ _ _ _ (Nat.zero_le _), List.nil_append] at u2
   obtain ⟨x', o', H4, v1, v2, v3, v4, v5⟩ := gc_row (H := H) (ps := [.int .i64 0]) u2 (fun id h => by have := u3 id h; omega) (sl_cell _) rfl
   rw [hV]
   obtain ⟨aX, cX, rfl⟩ := u2.len
   refine ⟨x', o', H4, ?_, v2, v3, v4⟩
   rw [hlw, letO_len] at u1
   rw [letO_len] at v1
   subst hHX
   exact f23_F_5 (x35 := L.toArray) _ _ all3 g3 h36 e1 c2 c3 g0 h44 e4 c5 g3 r1 a1 (by simpa using r2) hput u1 (by rw [pfin_eq, if_neg (by simp [a23])]; exact v1)
  ·exact nil 21 (by subst hHX; exact f23_F_3 all3 g3 h36 e1 c2 c3 g0 h44 (by simpa using c4)) (by unfold wordsV; rw [if_neg (by simp [c1]), if_neg c2, if_neg c3, if_pos c4])
 ·exact nil (chkG k xs bs) (by subst hHX; exact f23_F_0 all3 g3 h36 (by simpa using c1)) (by unfold wordsV; rw [if_pos c1])
end Go.Proofs.Ythjkodbinkiifaa.Am23
set_option linter.unusedVariables false
open Go Go.Proofs.Ythjkodbinkiifaa.Am
namespace Go.Proofs.Ythjkodbinkiifaa.Am23
end Go.Proofs.Ythjkodbinkiifaa.Am23
namespace Go.Proofs.Ythjkodbinkiifaa.Am23
open Go Go.Proofs.Ythjkodbinkiifaa.Am

end Go.Proofs.Ythjkodbinkiifaa.Am23
set_option linter.unusedVariables false
open Go Go.Proofs.Ythjkodbinkiifaa.Am
namespace Go.Proofs.Ythjkodbinkiifaa.Am23
end Go.Proofs.Ythjkodbinkiifaa.Am23
set_option linter.unusedVariables false
open Go Go.Proofs.Ythjkodbinkiifaa.Am
namespace Go.Proofs.Ythjkodbinkiifaa.Am23
end Go.Proofs.Ythjkodbinkiifaa.Am23
namespace Go.Proofs.Ythjkodbinkiifaa.Am23
open Go Go.Proofs.Ythjkodbinkiifaa.Am

end Go.Proofs.Ythjkodbinkiifaa.Am23
namespace Go.Proofs.Ythjkodbinkiifaa.Am23
open Go Go.Proofs.Ythjkodbinkiifaa.Am
/-- Where a word leads. -/
theorem foldl_go (k : Nat) (xs : List Int) : ∀ (w : List Nat) (s : Nat), w.foldl (tgt k xs) s = go k xs s w
 | [], s => rfl
 | c :: w, s => by rw [List.foldl_cons, foldl_go k xs w]; rfl
end Go.Proofs.Ythjkodbinkiifaa.Am23
namespace Go.Proofs.Ythjkodbinkiifaa.Am23
open Go Go.Proofs.Ythjkodbinkiifaa.Am
open Am23g (Rch RQ sc comp Lc abv Abv abv_iff Lc_eq Mu)
/-! What the degree says. -/
theorem bmp_pos {F : Nat → Nat} {x c : Nat} : 0 < bmp F x c ↔ 0 < F c ∨ c = x := by
 unfold bmp stF
 split
 ·rename_i e; subst e; constructor
  ·intro _; exact .inr rfl
  ·intro _; omega
 ·rename_i e
  constructor
  ·exact .inl
  ·rintro (h | h)
   ·exact h
   ·exact absurd h e
theorem eFold_pos {lc : Nat → Nat} {s c : Nat} : ∀ (l : List Nat) (F : Nat → Nat), 0 < l.foldl (eStep lc s) F c ↔ 0 < F c ∨ ∃ t, t ∈ l ∧ lc s = c ∧ lc t = c
 | [], F => by simp
 | t :: l, F => by
  rw [List.foldl_cons, eFold_pos l]
  have : 0 < eStep lc s F t c ↔ 0 < F c ∨ (lc s = c ∧ lc t = c) := by
   unfold eStep
   split
   ·rename_i e
    rw [bmp_pos]
    constructor
    ·rintro (h | h)
     ·exact .inl h
     ·exact .inr ⟨h.symm, e ▸ h.symm⟩
    ·rintro (h | ⟨h, _⟩)
     ·exact .inl h
     ·exact .inr h.symm
   ·rename_i e
    constructor
    ·exact .inl
    ·rintro (h | ⟨h1, h2⟩)
     ·exact h
     ·exact absurd (h1.trans h2.symm) e
  rw [this]
  constructor
  ·rintro ((h | h) | ⟨u, h1, h2⟩)
   ·exact .inl h
   ·exact .inr ⟨t, by simp, h⟩
   ·exact .inr ⟨u, by simp [h1], h2⟩
  ·rintro (h | ⟨u, h1, h2⟩)
   ·exact .inl (.inl h)
   ·rcases List.mem_cons.1 h1 with rfl | h1
    ·exact .inl (.inr h2)
    ·exact .inr ⟨u, h1, h2⟩
theorem eAll_pos {lc : Nat → Nat} {R : Nat → List Nat} {c : Nat} : ∀ (m s : Nat) (F : Nat → Nat), 0 < eAll lc R m s F c ↔ 0 < F c ∨ ∃ x t, s ≤ x ∧ x < s + m ∧ t ∈ R x ∧ lc x = c ∧ lc t = c
 | 0, s, F => by
  rw [eAll]
  constructor
  ·exact .inl
  ·rintro (h | ⟨x, t, h1, h2, _⟩)
   ·exact h
   ·omega
 | m + 1, s, F => by
  rw [eAll, eAll_pos m, eFold_pos]
  constructor
  ·rintro ((h | ⟨t, h1, h2⟩) | ⟨x, t, h1, h2, h3⟩)
   ·exact .inl h
   ·exact .inr ⟨s, t, by omega, by omega, h1, h2⟩
   ·exact .inr ⟨x, t, by omega, by omega, h3⟩
  ·rintro (h | ⟨x, t, h1, h2, h3⟩)
   ·exact .inl (.inl h)
   ·by_cases e : x = s
    ·subst e; exact .inl (.inr ⟨t, h3⟩)
    ·exact .inr ⟨x, t, by omega, by omega, h3⟩
section
variable {k : Nat} {xs : List Int} {bs : List Bool}
theorem gE_pos (hG : Good k xs bs) {c : Nat} : 0 < gE k xs bs c ↔ ∃ x t, x < bs.length ∧ t < bs.length ∧ t ∈ sc (gU k xs bs) x ∧ Lc (gU k xs bs) x = c ∧ Lc (gU k xs bs) t = c := by
 unfold gE
 rw [eAll_pos]
 constructor
 ·rintro (h | ⟨x, t, _, h2, h3, h4⟩)
  ·omega
  ·have hx : x < bs.length := by omega
   exact ⟨x, t, hx, uB_lt hG (inL_mem.1 h3).2.1, by rw [sc_gU hx]; exact h3, h4⟩
 ·rintro ⟨x, t, h1, h2, h3, h4⟩
  rw [sc_gU h1] at h3
  exact .inr ⟨x, t, by omega, by omega, h3, h4⟩
/-- Finite: no component has an edge. -/
theorem gE_zero (hG : Good k xs bs) (hf : (boundV k xs bs).1 = true) (c : Nat) : gE k xs bs c = 0 := by
 rcases Nat.eq_zero_or_pos (gE k xs bs c) with h | h
 ·exact h
 ·exfalso
  obtain ⟨x, t, h1, h2, h3, h4, h5⟩ := (gE_pos hG).1 h
  rcases (Lc_eq (G := gU k xs bs) (by rw [gU_len]; exact h1) (by rw [gU_len]; exact h2)).1 (h4.trans h5.symm) with e | e
  ·subst e; exact no_cycle hG hf (.one h3)
  ·exact no_cycle hG hf (e.1.trans e.2)
theorem htw_zero {A : Nat → Nat → Bool} {n : Nat} {o h r : Nat → Nat} (a : HtW A n o h) (hr : Ht A n r) (ho : ∀ c, o c = 0) : ∀ N c, c < n → r c < N → h c = 0
 | 0, c, _, h0 => by omega
 | N + 1, c, hc, h0 => by
  have := ho c
  rcases a.ex c hc with e | ⟨d, hd, hne, ha, e⟩
  ·omega
  ·have h1 := hr.ge c d hc hd hne ha
   have := htw_zero a hr ho N d hd (by omega)
   omega
theorem grow_fin (hG : Good k xs bs) (h0 : chkG k xs bs = 0) (hf : (boundV k xs bs).1 = true) : growV k xs bs = (-1, true) := by
 unfold growV
 rw [Int.toNat_natCast, if_pos ⟨h0, fun c _ => by rw [gE_zero hG hf]; exact Nat.zero_le _⟩]
 have hz : ∀ c, c < gN k xs bs → gW k xs bs c = 0 := fun c hc => htw_zero gW_ok gR_ok (fun c => by unfold gO; rw [gE_zero hG hf]; rfl) (gR k xs bs c + 1) c hc (by omega)
 have ht : topH (gW k xs bs) (gN k xs bs) = 0 := by
  rcases topH_ex (h := gW k xs bs) (n := gN k xs bs) with e | ⟨c, c1, c2⟩
  ·exact e
  ·rw [c2]; exact hz c c1
 rw [ht]; rfl
/-- A word from a useful state to a useful state is a way of useful states. -/
theorem word_rch (hG : Good k xs bs) : ∀ (w : List Nat) (s : Nat), uB k xs bs s = true → uB k xs bs (go k xs s w) = true → Wk k w → w ≠ [] → Rch (gU k xs bs) s (go k xs s w)
 | [], _, _, _, _, h => absurd rfl h
 | c :: w, s, hs, ht, hw, _ => by
  have hk : c < k := hw c List.mem_cons_self
  have hw' : Wk k w := fun d hd => hw d (List.mem_cons_of_mem _ hd)
  obtain ⟨h1, ⟨u, h2, h3⟩, _⟩ := (uB_iff hG).1 hs
  have htl := (tgt_lt hG h1 hk).2.1
  obtain ⟨g1, _, v, g3, g4⟩ := (uB_iff hG).1 ht
  have hgo : go k xs s (c :: w) = go k xs (tgt k xs s c) w := rfl
  have hut : uB k xs bs (tgt k xs s c) = true := (uB_iff hG).2 ⟨htl, ⟨u ++ [c], fun d hd => by
   rcases List.mem_append.1 hd with hd | hd
   ·exact h2 d hd
   ·rw [List.mem_singleton] at hd; omega, by rw [go_app, h3]; rfl⟩, ⟨w ++ v, wk_app hw' g3, by rw [go_app, ← hgo]; exact g4⟩⟩
  have hone : Rch (gU k xs bs) s (tgt k xs s c) := .one (by rw [sc_gU h1]; exact inL_mem.2 ⟨hs, hut, c, hk, rfl⟩)
  by_cases hw0 : w = []
  ·subst hw0; exact hone
  ·rw [hgo] at ht ⊢
   exact hone.trans (word_rch hG w _ hut ht hw' hw0)
theorem cycle_of (hG : Good k xs bs) (hf : (boundV k xs bs).1 = false) : ∃ s, s < bs.length ∧ Rch (gU k xs bs) s s := by
 have : ∃ t, bestV k xs bs = some t := by
  unfold boundV at hf
  cases hb : bestV k xs bs with
  | none => rw [hb] at hf; cases hf
  | some b => exact ⟨b, rfl⟩
 obtain ⟨t, ht⟩ := this
 rcases pick_some bs.length 0 none ht with ⟨_, h2, h3⟩ | h
 ·have hts : t < bs.length := by omega
  obtain ⟨⟨u, u1, u2⟩, h4, v, v1, v2, v3⟩ := (okB_iff hG hts).1 h3
  have hu : uB k xs bs t = true := (uB_iff hG).2 ⟨hts, ⟨u, u1, u2⟩, h4⟩
  have := word_rch hG v t hu (by rw [v2]; exact hu) v1 v3
  rw [v2] at this
  exact ⟨t, hts, this⟩
 ·cases h
theorem grow_inf (hG : Good k xs bs) (hf : (boundV k xs bs).1 = false) (h : (growV k xs bs).2 = true) : 0 ≤ (growV k xs bs).1 := by
 unfold growV at h ⊢
 rw [Int.toNat_natCast] at h ⊢
 split at h
 ·rename_i hc
  rw [if_pos hc]
  obtain ⟨s, hs, hr⟩ := cycle_of hG hf
  have hE : 0 < gE k xs bs (Lc (gU k xs bs) s) := by
   rw [gE_pos hG]
   rcases rch_first hr with e | ⟨x, h1, h2⟩
   ·exact ⟨s, s, hs, hs, e, rfl, rfl⟩
   ·have hx := sc_lt' (show x ∈ sc (gU k xs bs) s from h1)
    have hxl : x < bs.length := by
     rw [sc_gU hs] at h1
     exact uB_lt hG (inL_mem.1 h1).2.1
    exact ⟨s, x, hs, hxl, h1, rfl, (Lc_eq (by rw [gU_len]; exact hxl) (by rw [gU_len]; exact hs)).2 (.inr ⟨h2, .one h1⟩)⟩
  have hl := lc_lt (k := k) (xs := xs) hs
  have h1 := gW_ok.own _ hl
  have h2 := topH_le (h := gW k xs bs) hl
  have h3 : gO k xs bs (Lc (gU k xs bs) s) = 1 := by unfold gO; omega
  dsimp only
  omega
 ·cases h
theorem grow_not {k : Int} (h : (growV k xs bs).2 = false) : (growV k xs bs).1 = 0 := by
 unfold growV at h ⊢
 split
 ·rename_i hc; rw [if_pos hc] at h; cases h
 ·rfl
theorem grow_low {k : Int} : -1 ≤ (growV k xs bs).1 := by
 unfold growV
 split
 ·dsimp only; omega
 ·dsimp only; omega
/-- Is there a word at all? -/
theorem words_one (hG : Good k xs bs) (h0 : chkG k xs bs = 0) (hf : (boundV k xs bs).1 = true) : (wordsV k xs bs ByteArray.empty 1).2 = 0 ∧ (wordsV k xs bs ByteArray.empty 1).1.length = if uB k xs bs 0 then 1 else 0 := by
 have hk1 := hG.k1
 have hk8 := hG.k8
 have hb1 := hG.n1
 have hb5 := hG.n5
 have hc : chkW k ByteArray.empty = 0 := by
  unfold chkW
  rw [if_neg (by omega), if_pos]
  rw [Int.toNat_natCast]
  rfl
 have hl : letO ByteArray.empty = [] := rfl
 unfold wordsV
 rw [if_neg (by simp [h0]), if_neg (by omega), if_neg (by omega), if_neg (by simp [hc]), if_neg (by decide), hl, Int.toNat_natCast]
 refine ⟨rfl, ?_⟩
 show ((tailW k (tgt k xs) (accB bs) [] 4097 0).take 1).length = _
 rw [List.length_take]
 have hm := fun w => mem_tailW k (tgt k xs) (accB bs) [] w 4097 0
 split
 ·rename_i hu
  obtain ⟨w, w1, w2, w3⟩ := high_word hG hf (hU k xs bs 0) 0 hu rfl
  have hlt := (hU_edges hG hf).lt 0 hb1
  have : w ∈ tailW k (tgt k xs) (accB bs) [] 4097 0 := (hm w).2 ⟨by omega, by omega, w1, by rw [foldl_go]; exact w3, fun h => by
   have : w = [] := List.eq_nil_of_length_eq_zero h
   subst this; rfl⟩
  have := List.length_pos_of_mem this
  omega
 ·rename_i hu
  have : tailW k (tgt k xs) (accB bs) [] 4097 0 = [] := by
   rw [List.eq_nil_iff_forall_not_mem]
   intro w hw
   obtain ⟨_, _, h3, h4, _⟩ := (hm w).1 hw
   rw [foldl_go] at h4
   exact hu ((uB_iff hG).2 ⟨hb1, ⟨[], fun c h => absurd h (by simp), rfl⟩, w, h3, h4⟩)
  rw [this]
  simp
theorem words_err (hG : Good k xs bs) (h0 : chkG k xs bs = 0) : (wordsV k xs bs ByteArray.empty 1).2 = 0 := by
 have hk1 := hG.k1
 have hk8 := hG.k8
 have hc : chkW k ByteArray.empty = 0 := by
  unfold chkW
  rw [if_neg (by omega), if_pos]
  rw [Int.toNat_natCast]
  rfl
 unfold wordsV
 rw [if_neg (by simp [h0]), if_neg (by omega), if_neg (by omega), if_neg (by simp [hc]), if_neg (by decide)]
end
end Go.Proofs.Ythjkodbinkiifaa.Am23
namespace Go.Proofs.Ythjkodbinkiifaa.Am23
open Go Go.Proofs.Ythjkodbinkiifaa.Am
open Am23g (addE Out Mine out_start gc_mine Gr nl Rch RQ sc comp Lc abv Abv abv_iff chk Short Lc_lt comp_n)
theorem out_weak {B C : Nat} {H : AHeap} {x : Value} {N : Nat} {r : Nat → Value} {o : Nat → Option Nat} {o3 : Nat} {T : Nat → List Nat} (h : Out B H x N r o o3 T) (hc : C ≤ B) : Out C H x N r o o3 T :=
 ⟨h.x3, h.rx, Nat.le_trans hc h.b3, fun j hj a ha => Nat.le_trans hc (h.bo j hj a ha), h.dis⟩
theorem rep0 (n : Nat) : repCells [.int .i64 0] n = il (faL (fun _ => 0) n) := by
 have := rep_map (fun n => Value.int .i64 ((n : Nat) : Int)) 0 n
 rw [show Value.int .i64 0 = (fun n => Value.int .i64 ((n : Nat) : Int)) 0 from rfl, this]
 unfold il faL nl
 rw [List.map_const', List.length_range, List.map_replicate, List.map_replicate, List.map_replicate]
/-- One more list of counts. -/
theorem place_zero {H : AHeap} {n hid : Nat} (hn : 0 < n) (hn2 : n ≤ 512) (hh : H[hid]? = some .hole) :
  ∃ H', placeA hid H (amakeSlice cfg.P 22 (.int .i64 (n : Int)) (.int .i64 (n : Int)) H) = some (.slice (some ⟨hid, 0, some (n * 1)⟩) n n, H') ∧ Own H' 3 1 (.slice (some ⟨hid, 0, some (n * 1)⟩) n n) (some hid) n (il (faL (fun _ => 0) n)) ∧ Stay (some hid) H H' ∧ H'.length = H.length := by
 rw [make_eq T22 (z := .int .i64 0) (by kernel_rfl) rfl rfl (by omega) (by omega), show cellsOf (Value.int .i64 0) = [.int .i64 0] from rfl, rep0]
 exact place_make (by simp [il, faL_len]) hn hh
theorem var_put {H : AHeap} {p e : Nat} {v w : Value} (h : H[p]? = some (.cells [v] e 1 .var)) {prot : Nat} (hp : prot ≤ p) (hw : isCell w = true) :
  ∃ H', setCells H prot p 1 0 [w] = some H' ∧ H'[p]? = some (.cells [w] e 1 .var) ∧ Stay (some p) H H' ∧ H'.length = H.length :=
 ⟨_, arr_put h rfl hp rfl (by simp [hw]), List.getElem?_set_self (List.getElem?_eq_some_iff.1 h).1, set_stay, List.length_set⟩
theorem c31 {k : Int} {xs : List Int} {bs : List Bool} {vN vA : Value} (prot : Nat) (H : AHeap) (hA : IsA H xs bs vN vA) :
  callInf cfg 31 [av k vN vA] prot H = some (.tuple #[.int .i64 (growV k xs bs).1, .bool (growV k xs bs).2, .int .i64 (chkG k xs bs)], H) := by
 have hck := c36 (k := k) H.length (H ++ [bx k vN vA]) (hA.stay (Stay.app none H _))
 have hg : (H ++ [bx k vN vA])[H.length]? = some (bx k vN vA) := append_get.1
 have hA0 := hA
 obtain ⟨aN, cN, hNe⟩ := hA.n.len
 obtain ⟨aA, cA, hAe⟩ := hA.a.len
 subst hNe; subst hAe
 obtain ⟨_, _, _, g3⟩ := fld3 hg
 unfold growV
 by_cases h0 : chkG k xs bs = 0
 ·obtain ⟨k, rfl, hG⟩ := good_of h0
  rw [Int.toNat_natCast]
  rw [h0] at hck ⊢
  have hb1 := hG.n1
  have hb5 := hG.n5
  have hk8 := hG.k8
  obtain ⟨HX, hHX⟩ : ∃ HX, HX = H ++ [bx (k : Int) (.slice aN xs.length cN) (.slice aA bs.length cA)] := ⟨_, rfl⟩
  have lX : HX.length = H.length + 1 := by rw [hHX]; simp
  have sX : Stay none H HX := by rw [hHX]; exact Stay.app none H _
  obtain ⟨xg, H1, i1, i2, i3⟩ := c54 hG H.length HX (hA.stay sX)
  have hrg : RowsR H1 xg bs.length (inL k xs (uB k xs bs)) := i2.rd
  obtain ⟨hsh, hchk⟩ := gU_good hG
  rcases Am23g.c18 hsh H.length (gr_of hrg) with ⟨hne, _⟩ | ⟨_, xl, H2, j1, j2, j3, j4⟩
  ·exact absurd hchk hne
  have l1 := i3.1
  have l2 := j4.1
  have hlx := lX
  obtain ⟨n, hn⟩ : ∃ n, n = gN k xs bs := ⟨_, rfl⟩
  have hn0 : 0 < n := by have := lc_lt (k := k) (xs := xs) hb1; omega
  have hn5 : n ≤ 512 := by rw [hn]; exact gN_le hG
  obtain ⟨HP, hHP⟩ : ∃ HP, HP = H2 ++ [AObj.hole, AObj.hole, AObj.hole] := ⟨_, rfl⟩
  have lP : HP.length = H2.length + 3 := by rw [hHP]; simp
  have sP : Stay none H2 HP := by rw [hHP]; exact Stay.app none H2 _
  have hol : ∀ i, i < 3 → HP[H2.length + i]? = some .hole := fun i hi => by
   rw [hHP, List.getElem?_append_right (by omega)]
   match i, hi with
   | 0, _ => simp
   | 1, _ => simp
   | 2, _ => simp
  obtain ⟨H3, p1, p2, p3, p4⟩ := place_zero hn0 hn5 (hol 0 (by omega))
  rw [Nat.add_zero] at p2 p3
  have h3h : H3[H2.length + 2]? = some .hole := by rw [p3.2 _ (by omega) (fun e => by have := Option.some.inj e; omega)]; exact hol 2 (by omega)
  have h3h1 : H3[H2.length + 1]? = some .hole := by rw [p3.2 _ (by omega) (fun e => by have := Option.some.inj e; omega)]; exact hol 1 (by omega)
  obtain ⟨HQ, hHQ⟩ : ∃ HQ, HQ = H3.set (H2.length + 2) (vo [.slice none 0 0] 22) := ⟨_, rfl⟩
  have lQ : HQ.length = H2.length + 3 := by rw [hHQ, List.length_set]; omega
  have sQ : Stay (some (H2.length + 2)) H3 HQ := by rw [hHQ]; exact set_stay
  have gQ : HQ[H2.length + 2]? = some (.cells [.slice none 0 0] 22 1 .var) := by rw [hHQ]; exact List.getElem?_set_self (by omega)
  obtain ⟨H4, q1, q2, q3, q4⟩ := var_put (w := .slice (some ⟨H2.length + 0, 0, some (n * 1)⟩) n n) gQ (prot := H.length) (by omega) rfl
  have h4h1 : H4[H2.length + 1]? = some .hole := by
   rw [q3.2 _ (by omega) (fun e => by have := Option.some.inj e; omega), sQ.2 _ (by omega) (fun e => by have := Option.some.inj e; omega)]; exact h3h1
  obtain ⟨H5, r1, r2, r3, r4⟩ := place_zero hn0 hn5 h4h1
  have l5 : H5.length = H2.length + 3 := by omega
  obtain ⟨HA, hHA⟩ : ∃ HA, HA = H5 ++ [AObj.cells (repCells [.slice none 0 0] n) 22 (repCells [.slice none 0 0] n).length .row] := ⟨_, rfl⟩
  have hO := out_start hn0 H5
  rw [← hHA] at hO
  have sA : Stay none H5 HA := by rw [hHA]; exact Stay.app none H5 _
  have lA : HA.length = H2.length + 4 := by rw [hHA, List.length_append, List.length_singleton]; omega
  obtain ⟨HB, hHB⟩ : ∃ HB, HB = HA ++ [vo [.slice none 0 0] 86] := ⟨_, rfl⟩
  have sB : Stay none HA HB := by rw [hHB]; exact Stay.app none HA _
  have lB : HB.length = H2.length + 5 := by rw [hHB, List.length_append, List.length_singleton]; omega
  have gB : HB[HA.length]? = some (.cells [.slice none 0 0] 86 1 .var) := by rw [hHB]; exact append_get.1
  obtain ⟨xo, hxo⟩ : ∃ xo : Value, xo = .slice (some ⟨H5.length, 0, some (n * 1)⟩) n n := ⟨_, rfl⟩
  obtain ⟨H6, t1, t2, t3, t4⟩ := var_put (w := xo) gB (prot := H.length) (by omega) (by rw [hxo]; rfl)
  rw [← hxo] at hO
  have sAll : Stay none H2 H6 := ((((((sP.over p3 (fun id e => by have := Option.some.inj e; omega)).over sQ (fun id e => by have := Option.some.inj e; omega)).over q3 (fun id e => by have := Option.some.inj e; omega)).over r3 (fun id e => by have := Option.some.inj e; omega)).trans sA).trans sB).over t3 (fun id e => by have := Option.some.inj e; omega)
  have hpe : H6[H2.length + 2]? = some (.cells [.slice (some ⟨H2.length, 0, some (n * 1)⟩) n n] 22 1 .var) := by
   rw [t3.2 _ (by omega) (fun e => by have := Option.some.inj e; omega), sB.2 _ (by omega) (by simp), sA.2 _ (by omega) (by simp), r3.2 _ (by omega) (fun e => by have := Option.some.inj e; omega)]
   exact q2
  have hoe : Own H6 3 1 (.slice (some ⟨H2.length, 0, some (n * 1)⟩) n n) (some H2.length) n (il (faL (fun _ => 0) n)) :=
   ((((((p2.stay sQ (fun id e1 e2 => by cases e1; have := Option.some.inj e2; omega)).stay q3 (fun id e1 e2 => by cases e1; have := Option.some.inj e2; omega)).stay r3 (fun id e1 e2 => by cases e1; have := Option.some.inj e2; omega)).stay sA (fun _ _ h => by cases h)).stay sB (fun _ _ h => by cases h)).stay t3 (fun id e1 e2 => by cases e1; have := Option.some.inj e2; omega))
  have hoz : Own H6 3 1 (.slice (some ⟨H2.length + 1, 0, some (n * 1)⟩) n n) (some (H2.length + 1)) n (il (faL (fun _ => 0) n)) :=
   (((r2.stay sA (fun _ _ h => by cases h)).stay sB (fun _ _ h => by cases h)).stay t3 (fun id e1 e2 => by cases e1; have := Option.some.inj e2; omega))
  have hO6 : Out H2.length H6 xo n (fun _ => .slice none 0 0) (fun _ => none) H5.length (fun _ => []) := by
   refine out_weak (B := H5.length) ⟨(hO.x3.stay sB (fun _ _ h => by cases h)).stay t3 (fun id e1 e2 => by cases e1; have := Option.some.inj e2; omega), fun j hj => ((hO.rx j hj).stay sB (fun _ _ h => by cases h)).stay t3 (fun _ h => by cases h), hO.b3, hO.bo, hO.dis⟩ (by omega)
  have hE : E31 H2 H6 n (.slice (some ⟨H2.length, 0, some (n * 1)⟩) n n) (.slice (some ⟨H2.length + 1, 0, some (n * 1)⟩) n n) xo (H2.length + 2) HA.length H2.length (H2.length + 1) H5.length (fun _ => .slice none 0 0) (fun _ => none) (fun _ => 0) (fun _ => 0) (fun _ => []) :=
   ⟨sAll, hpe, t2, hoe, hoz, hO6, by omega, by omega, by omega, fun q hq => ⟨by omega, fun j _ h => by cases h⟩⟩
  have hcl : ∀ v, v < bs.length → (il (nl (comp (gU k xs bs)).1))[v]? = some (.int .i64 ((Lc (gU k xs bs) v : Nat) : Int)) := fun v hv => Am23g.comp_get (by rw [gU_len]; exact hv)
  have hRd : Rd H2 3 1 xl bs.length (il (nl (comp (gU k xs bs)).1)) := by have := j2.rd; rw [gU_len] at this; exact this
  obtain ⟨r', o', H7, z1, z2⟩ := loop31b hb5 (fun v hv => by rw [hn]; exact lc_lt hv) hcl (fun j t ht => uB_lt hG (inL_mem.1 ht).2.1) (fun j => by have := inL_len k xs (uB k xs bs) j; omega) (hrg.stay j4) hRd (H0 := H) (by omega) (prot := prot) bs.length 0 _ _ _ _ _ H6 (by omega) hE (fun _ => Nat.zero_le _) (fun _ => Nat.zero_le _) (fun _ => Nat.zero_le _)
  have z2' : E31 H2 H7 n (.slice (some ⟨H2.length, 0, some (n * 1)⟩) n n) (.slice (some ⟨H2.length + 1, 0, some (n * 1)⟩) n n) xo (H2.length + 2) HA.length H2.length (H2.length + 1) H5.length r' o' (gE k xs bs) (gZ k xs bs) (gT k xs bs) := z2
  have e17 : H6 = H6 := rfl
  obtain ⟨ag, cg, hxg⟩ : ∃ a c, xg = .slice a bs.length c := by obtain ⟨cs, h, _⟩ := hrg; exact h.len
  obtain ⟨al, cl, hxl⟩ := hRd.len
  have hnn : (((n : Nat) : Int)).toNat = n := Int.toNat_natCast n
  have j1' : callInf cfg 56 [xg] H.length H1 = some (.tuple #[xl, .int .i64 (n : Nat), .int .i64 0], H2) := by rw [hn]; exact j1
  have l7 := z2'.st.1
  have lpe := (List.getElem?_eq_some_iff.1 z2'.ge).1
  have lpo := (List.getElem?_eq_some_iff.1 z2'.go).1
  have loe := own_lt z2'.e
  subst hxg; subst hxl
  rcases loop31c (H0 := H) (prot := prot) hn5 z2' n 0 (by omega) (fun x hx => by omega) with ⟨⟨x, x1, x2⟩, y⟩ | ⟨x1, y⟩
  ·rw [if_neg (fun h => by have := h.2 x (by rw [← hn]; exact x1); omega)]
   subst hHQ; subst hHB; subst hHA; subst hHP; subst hHX; subst hxo
   exact f31_F_2 all3 g3 hck rfl g3 i1 j1' p1 h3h rfl q1 r1 (by omega) rfl (by omega) (by omega) rfl t1 z1 y
  ·rw [if_pos ⟨rfl, fun c hc => x1 c (by rw [hn]; exact hc)⟩]
   obtain ⟨HC, hHC⟩ : ∃ HC, HC = H7 ++ [AObj.cells (repCells [.int .i64 0] n) 3 (repCells [.int .i64 0] n).length .row] := ⟨_, rfl⟩
   have sC : Stay none H7 HC := by rw [hHC]; exact Stay.app none H7 _
   have lC : HC.length = H7.length + 1 := by rw [hHC, List.length_append, List.length_singleton]
   have m : Own HC 3 1 (.slice (some ⟨H7.length, 0, some (n * 1)⟩) n n) (some H7.length) n (il (faL (fun _ => 0) n)) := by
    have := own_mk (e := 3) hn0 H7 (.int .i64 0)
    rw [hHC, ← rep0]
    have e : List.replicate n (Value.int .i64 0) = repCells [.int .i64 0] n := by
     have := rep_map (fun n => Value.int .i64 ((n : Nat) : Int)) 0 n
     rw [show Value.int .i64 0 = (fun n => Value.int .i64 ((n : Nat) : Int)) 0 from rfl, this, List.map_replicate]
    rw [← e]
    rw [← e] at this
    exact this
   obtain ⟨HD, hHD⟩ : ∃ HD, HD = HC ++ [vo [.slice none 0 0] 22] := ⟨_, rfl⟩
   have sD : Stay none HC HD := by rw [hHD]; exact Stay.app none HC _
   have lD : HD.length = H7.length + 2 := by rw [hHD, List.length_append, List.length_singleton]; omega
   have gD : HD[HC.length]? = some (.cells [.slice none 0 0] 22 1 .var) := by rw [hHD]; exact append_get.1
   obtain ⟨xd, hxd⟩ : ∃ xd : Value, xd = .slice (some ⟨H7.length, 0, some (n * 1)⟩) n n := ⟨_, rfl⟩
   rw [← hxd] at m
   obtain ⟨H9, u1, u2, u3, u4⟩ := var_put (w := xd) gD (prot := H.length) (by omega) (by rw [hxd]; rfl)
   obtain ⟨HF, hHF⟩ : ∃ HF, HF = H9 ++ [vo [.nilFunc] 82] := ⟨_, rfl⟩
   have sF : Stay none H9 HF := by rw [hHF]; exact Stay.app none H9 _
   have lF : HF.length = H7.length + 3 := by rw [hHF, List.length_append, List.length_singleton]; omega
   have gF : HF[H9.length]? = some (.cells [.nilFunc] 82 1 .var) := by rw [hHF]; exact append_get.1
   obtain ⟨H10, v1, v2, v3, v4⟩ := var_put (w := fGr HC.length HA.length H9.length (H2.length + 2)) gF (prot := H.length) (by omega) rfl
   have s7 : Stay none H7 H10 := ((((sC.trans sD).over u3 (fun id e => by have := Option.some.inj e; omega)).trans sF).over v3 (fun id e => by have := Option.some.inj e; omega))
   have k1 : H10[HC.length]? = some (.cells [xd] 22 1 .var) := by
    rw [v3.2 _ (by omega) (fun e => by have := Option.some.inj e; omega), sF.2 _ (by omega) (by simp)]; exact u2
   have keep : ∀ q x, H7[q]? = some x → H10[q]? = some x := fun q x h => by
    rw [s7.2 q (List.getElem?_eq_some_iff.1 h).1 (by simp)]; exact h
   have m10 : Own H10 3 1 xd (some H7.length) n (il (faL (fun _ => 0) n)) :=
    (((m.stay sD (fun _ _ h => by cases h)).stay u3 (fun id e1 e2 => by cases e1; have := Option.some.inj e2; omega)).stay sF (fun _ _ h => by cases h)).stay v3 (fun id e1 e2 => by cases e1; have := Option.some.inj e2; omega)
   have hM : Mine H2.length H7 xo n (gT k xs bs) := ⟨.inl ⟨r', o', H5.length, z2'.out⟩⟩
   have r10 : RowsA H10 xo n (gT k xs bs) H7.length := (mine_rows hM (Nat.le_refl _)).stay s7
   have hw : WG (fGr HC.length HA.length H9.length (H2.length + 2)) H.length H10 n (gT k xs bs) (fun c => gW k xs bs c + 1) (gE k xs bs) xd xo (.slice (some ⟨H2.length, 0, some (n * 1)⟩) n n) H7.length H2.length HC.length HA.length H9.length (H2.length + 2) (fun _ => 0) :=
    ⟨⟨k1, keep _ _ z2'.go, v2, m10, r10, by omega, by omega, by omega, by omega, fun _ _ => .inl rfl⟩, keep _ _ z2'.ge, z2'.e.stay s7 (fun _ _ h => by cases h), by omega, by omega⟩
   have hT : ∀ c d, d ∈ gT k xs bs c → d < n ∧ d ≠ c ∧ gR k xs bs d < gR k xs bs c := fun c d h => by
    obtain ⟨a1, a2, a3, a4⟩ := gT_abv hG h
    exact ⟨by omega, a4, gR_ok.ge c d a3 a2 a4 a1⟩
   have hT2 : ∀ c, (gT k xs bs c).length ≤ 1000000 := fun c => by
    have := oAll_len (lc := Lc (gU k xs bs)) (R := inL k xs (uB k xs bs)) (fun j => by have := inL_len k xs (uB k xs bs) j; omega) bs.length 0 0 (fun _ => []) (fun _ => Nat.le_refl _) c
    unfold gT
    omega
   have hnx := gW_next hG
   have hwl : ∀ c, c < n → gW k xs bs c ≤ 1000 := fun c hc => by have := gW_le hG (c := c) (by omega); omega
   rw [← hn] at hnx
   obtain ⟨H11, w1⟩ := loop31d hn5 hnx hT hT2 hwl (fun _ _ => rfl) (H0 := H) (by omega) (prot := prot) n 0 (-1) _ H10 (by omega) hw rfl
   rw [hn] at w1
   rw [← hn] at w1
   rw [← hn]
   subst hHF; subst hHD; subst hHC; subst hHQ; subst hHB; subst hHA; subst hHP; subst hHX; subst hxo; subst hxd
   exact f31_F_1 all3 g3 hck rfl g3 i1 j1' p1 h3h rfl q1 r1 (by omega) rfl (by omega) (by omega) rfl t1 z1 y (by omega) rfl (by omega) (by omega) rfl u1 rfl v1 w1
 ·rw [if_neg (fun h => h0 h.1)]
  exact f31_F_0 all3 g3 hck (by simpa using h0)
end Go.Proofs.Ythjkodbinkiifaa.Am23
set_option linter.unusedVariables false
open Go Go.Proofs.Ythjkodbinkiifaa.Am
namespace Go.Proofs.Ythjkodbinkiifaa.Am23
section
variable {x0a x22a x31a x32c x37a x38c x43a x44a x44c x49a x50a x50c x55a x56b x60 x62 x65 x68 x71 x125a x127a x127b x131 x19 x148a x150a x150b x154 : Int}
variable {x0ba x0ca x22ba x22ca x31ba x31ca x37ba x37ca x43ba x43ca x49ba x49ca x55ba x55ca x56aa x120a x125ba x125ca x141a x148ba x148ca : Option Addr}
variable {x0bn x0bc x0cn x0cc prot x22bn x22bc x22cn x22cc x31bn x31bc x31cn x31cc x37bn x37bc x37cn x37cc x43bn x43bc x43cn x43cc x49bn x49bc x49cn x49cc x55bn x55bc x55cn x55cc x56an x56ac x120n x120c x125bn x125bc x125cn x125cc x1p x1o x1l x141n x141c x148bn x148bc x148cn x148cc : Nat}
variable {H H1 H2 H3 H4 H0 : AHeap}
variable {x23 x26 x32a x38a x44b x50b x29 : Bool}
variable {x32ba x32bb x32bc x38ba x38bb x38bc : ByteArray}
variable {z2 : Value}
theorem f10_F_8 (h1 : [vI x0a, vS x0ba x0bn x0bc, vS x0ca x0cn x0cc].all isCell = true) (h2 : getCells (H ++ [vo [vI x0a, vS x0ba x0bn x0bc, vS x0ca x0cn x0cc] 25]) H.length 3 0 3 = some [vI x22a, vS x22ba x22bn x22bc, vS x22ca x22cn x22cc]) (h3 : cI 11 [Value.agg #[vI x22a, vS x22ba x22bn x22bc, vS x22ca x22cn x22cc]] H.length (H ++ [vo [vI x0a, vS x0ba x0bn x0bc, vS x0ca x0cn x0cc] 25]) = some (Value.bool x23, H ++ [vo [vI x0a, vS x0ba x0bn x0bc, vS x0ca x0cn x0cc] 25])) (h4 : (!x23) = false) (h5 : cI 12 [] H.length (H ++ [vo [vI x0a, vS x0ba x0bn x0bc, vS x0ca x0cn x0cc] 25]) = some (Value.bool x26, H ++ [vo [vI x0a, vS x0ba x0bn x0bc, vS x0ca x0cn x0cc] 25])) (h6 : (!x26) = false) (h7 : getCells (H ++ [vo [vI x0a, vS x0ba x0bn x0bc, vS x0ca x0cn x0cc] 25]) H.length 3 0 3 = some [vI x31a, vS x31ba x31bn x31bc, vS x31ca x31cn x31cc]) (h8 : cI 13 [Value.agg #[vI x31a, vS x31ba x31bn x31bc, vS x31ca x31cn x31cc]] H.length (H ++ [vo [vI x0a, vS x0ba x0bn x0bc, vS x0ca x0cn x0cc] 25]) = some (Value.tuple #[Value.bool x32a, Value.agg #[Value.string x32ba, Value.string x32bb, Value.string x32bc], vI x32c], H ++ [vo [vI x0a, vS x0ba x0bn x0bc, vS x0ca x0cn x0cc] 25])) (h9 : 3 = 3) (h10 : setCells (H ++ [vo [vI x0a, vS x0ba x0bn x0bc, vS x0ca x0cn x0cc] 25] ++ [vo [vE, vE, vE] 29]) H.length (List.length (H ++ [vo [vI x0a, vS x0ba x0bn x0bc, vS x0ca x0cn x0cc] 25])) 3 0 [Value.string x32ba, Value.string x32bb, Value.string x32bc] = some H1) (h11 : getCells H1 H.length 3 0 3 = some [vI x37a, vS x37ba x37bn x37bc, vS x37ca x37cn x37cc]) (h12 : cI 18 [Value.agg #[vI x37a, vS x37ba x37bn x37bc, vS x37ca x37cn x37cc]] H.length H1 = some (Value.tuple #[Value.bool x38a, Value.agg #[Value.string x38ba, Value.string x38bb, Value.string x38bc], vI x38c], H1)) (h13 : 3 = 3) (h14 : setCells (H1 ++ [vo [vE, vE, vE] 29]) H.length H1.length 3 0 [Value.string x38ba, Value.string x38bb, Value.string x38bc] = some H2) (h15 : getCells H2 H.length 3 0 3 = some [vI x43a, vS x43ba x43bn x43bc, vS x43ca x43cn x43cc]) (h16 : cI 30 [Value.agg #[vI x43a, vS x43ba x43bn x43bc, vS x43ca x43cn x43cc]] H.length H2 = some (Value.tuple #[vI x44a, Value.bool x44b, vI x44c], H2)) (h17 : getCells H2 H.length 3 0 3 = some [vI x49a, vS x49ba x49bn x49bc, vS x49ca x49cn x49cc]) (h18 : cI 31 [Value.agg #[vI x49a, vS x49ba x49bn x49bc, vS x49ca x49cn x49cc]] H.length H2 = some (Value.tuple #[vI x50a, Value.bool x50b, vI x50c], H2)) (h19 : getCells H2 H.length 3 0 3 = some [vI x55a, vS x55ba x55bn x55bc, vS x55ca x55cn x55cc]) (h20 : cI 23 [Value.agg #[vI x55a, vS x55ba x55bn x55bc, vS x55ca x55cn x55cc], vE, vI 1] H.length H2 = some (Value.tuple #[vS x56aa x56an x56ac, vI x56b], H3)) (h21 : cI 15 [vI x32c] H.length H3 = some (vI x60, H3)) (h22 : cI 15 [vI x38c] H.length H3 = some (vI x62, H3)) (h23 : Fit .i64 (x60 + x62)) (h24 : cI 15 [vI x44c] H.length H3 = some (vI x65, H3)) (h25 : Fit .i64 (x60 + x62 + x65)) (h26 : cI 15 [vI x50c] H.length H3 = some (vI x68, H3)) (h27 : Fit .i64 (x60 + x62 + x65 + x68)) (h28 : cI 15 [vI x56b] H.length H3 = some (vI x71, H3)) (h29 : Fit .i64 (x60 + x62 + x65 + x68 + x71)) (h30 : (x60 + x62 + x65 + x68 + x71 != 0) = false) (h31 : x32a = true) (h32 : x38a = false) (h33 : x50b = true) (h34 : (!x32a == (x50a == -1)) = false) (h35 : ¬(x50a < -1)) (h36 : (!x50b) = false) (h37 : (!x44b == ((↑x56an : Int) == 1)) = false) (h38 : (!x44b) = false) (h39 : ¬(x44a < 0)) (h40 : getCells H3 H.length 3 (0 + 2) 1 = some [vS x120a x120n x120c]) (h41 : ¬(x44a ≥ (↑x120n : Int))) (h42 : getCells H3 H.length 3 0 3 = some [vI x125a, vS x125ba x125bn x125bc, vS x125ca x125cn x125cc]) (h43 : cI 14 [Value.agg #[vI x125a, vS x125ba x125bn x125bc, vS x125ca x125cn x125cc], vI x44a] H.length H3 = some (Value.tuple #[Value.int .u64 x127a, vI x127b], H3)) (h44 : cI 15 [vI x127b] H.length H3 = some (vI x131, H3)) (h45 : (x131 == 0) = true) (h46 : (x127a == 0) = false) (h47 : Fit .i64 (x44a + 1)) (h48 : lI a10 0 prot H ([vP H.length 0 3, vI (x44a + 1)], H3) = some (Ex.exit 0, [z2], H4)) : callInf cfg 10 [.agg #[.int .i64 x0a, .slice x0ba x0bn x0bc, .slice x0ca x0cn x0cc]] prot H = some (Value.bool true, H) :=
 fn_of2 a10 [.e, .v (.agg #[vI x22a, vS x22ba x22bn x22bc, vS x22ca x22cn x22cc]), .v (.bool x23), .e, .b false, .v (.bool x26), .b false, .e, .b false, .b false, .v (.agg #[vI x31a, vS x31ba x31bn x31bc, vS x31ca x31cn x31cc]), .v (.tuple #[.bool x32a, .agg #[.string x32ba, .string x32bb, .string x32bc], vI x32c]), .e, .h H1, .v (.agg #[vI x37a, vS x37ba x37bn x37bc, vS x37ca x37cn x37cc]), .v (.tuple #[.bool x38a, .agg #[.string x38ba, .string x38bb, .string x38bc], vI x38c]), .e, .h H2, .v (.agg #[vI x43a, vS x43ba x43bn x43bc, vS x43ca x43cn x43cc]), .v (.tuple #[vI x44a, .bool x44b, vI x44c]), .v (.agg #[vI x49a, vS x49ba x49bn x49bc, vS x49ca x49cn x49cc]), .v (.tuple #[vI x50a, .bool x50b, vI x50c]), .v (.agg #[vI x55a, vS x55ba x55bn x55bc, vS x55ca x55cn x55cc]), .r (.tuple #[vS x56aa x56an x56ac, vI x56b]) H3, .v (vI x60), .v (vI x62), .e, .v (vI x65), .e, .v (vI x68), .e, .v (vI x71), .e, .e, .b false, .b false, .b true, .b false, .b true, .b false, .b false, .b false, .b false, .b true, .b true, .e, .b false, .b true, .b false, .e, .b false, .b false, .b false, .e, .b false, .b false, .b false, .e, .b false, .b false, .b false, .b false, .b false, .b false, .b false, .b false, .b false, .b true, .b true, .e, .b true, .e, .b false, .b true, .b false, .e, .b false, .b false, .e, .b false, .e, .b false, .b false, .b false, .v (vS x120a x120n x120c), .b false, .e, .b false, .e, .b false, .b false, .v (.agg #[vI x125a, vS x125ba x125bn x125bc, vS x125ca x125cn x125cc]), .v (.tuple #[.int .u64 x127a, vI x127b]), .v (vI x131), .e, .b true, .b true, .e, .b true, .b false, .e, .lo (.exit 0, [z2], H4)] (ai h1 (ai h2 (ai h3 (ai h4 (ai h5 (ai h4 (ai h4 (ai h6 (ai h7 (ai h8 (ai h9 (ai h10 (ai h11 (ai h12 (ai h13 (ai h14 (ai h15 (ai h16 (ai h17 (ai h18 (ai h19 (ai h20 (ai h21 (ai h22 (ai h23 (ai h24 (ai h25 (ai h26 (ai h27 (ai h28 (ai h29 (ai h30 (ai h30 (ai h31 (ai h30 (ai h31 (ai h30 (ai h32 (ai h32 (ai h32 (ai h33 (ai h33 (ai h32 (ai h33 (ai h32 (ai h32 (ai h34 (ai h34 (ai h34 (ai (decide_eq_false h35) (ai (decide_eq_false h35) (ai (decide_eq_false h35) (ai h36 (ai h36 (ai (decide_eq_false h35) (ai h36 (ai (decide_eq_false h35) (ai (Eq.refl false) (ai (Eq.refl false) (ai (Eq.refl false) (ai h31 (ai h31 (ai h31 (ai (Eq.refl false) (ai h31 (ai (Eq.refl false) (ai (Eq.refl false) (ai h37 (ai h38 (ai (decide_eq_false h39) (ai (decide_eq_false h39) (ai (decide_eq_false h39) (ai h40 (ai (decide_eq_false h39) (ai (decide_eq_false h39) (ai (decide_eq_false h39) (ai (decide_eq_false h41) (ai h42 (ai h43 (ai h44 (ai h45 (ai h45 (ai h45 (ai h46 (ai h47 (ai h48 (Eq.refl ((Value.bool true, H) : Value × AHeap)))))))))))))))))))))))))))))))))))))))))))))))))))))))))))))))))))))))))))))))))))))))) (by kernel_rfl) rfl
theorem f10_F_10 (h1 : [vI x0a, vS x0ba x0bn x0bc, vS x0ca x0cn x0cc].all isCell = true) (h2 : getCells (H ++ [vo [vI x0a, vS x0ba x0bn x0bc, vS x0ca x0cn x0cc] 25]) H.length 3 0 3 = some [vI x22a, vS x22ba x22bn x22bc, vS x22ca x22cn x22cc]) (h3 : cI 11 [Value.agg #[vI x22a, vS x22ba x22bn x22bc, vS x22ca x22cn x22cc]] H.length (H ++ [vo [vI x0a, vS x0ba x0bn x0bc, vS x0ca x0cn x0cc] 25]) = some (Value.bool x23, H ++ [vo [vI x0a, vS x0ba x0bn x0bc, vS x0ca x0cn x0cc] 25])) (h4 : (!x23) = false) (h5 : cI 12 [] H.length (H ++ [vo [vI x0a, vS x0ba x0bn x0bc, vS x0ca x0cn x0cc] 25]) = some (Value.bool x26, H ++ [vo [vI x0a, vS x0ba x0bn x0bc, vS x0ca x0cn x0cc] 25])) (h6 : (!x26) = false) (h7 : getCells (H ++ [vo [vI x0a, vS x0ba x0bn x0bc, vS x0ca x0cn x0cc] 25]) H.length 3 0 3 = some [vI x31a, vS x31ba x31bn x31bc, vS x31ca x31cn x31cc]) (h8 : cI 13 [Value.agg #[vI x31a, vS x31ba x31bn x31bc, vS x31ca x31cn x31cc]] H.length (H ++ [vo [vI x0a, vS x0ba x0bn x0bc, vS x0ca x0cn x0cc] 25]) = some (Value.tuple #[Value.bool x32a, Value.agg #[Value.string x32ba, Value.string x32bb, Value.string x32bc], vI x32c], H ++ [vo [vI x0a, vS x0ba x0bn x0bc, vS x0ca x0cn x0cc] 25])) (h9 : 3 = 3) (h10 : setCells (H ++ [vo [vI x0a, vS x0ba x0bn x0bc, vS x0ca x0cn x0cc] 25] ++ [vo [vE, vE, vE] 29]) H.length (List.length (H ++ [vo [vI x0a, vS x0ba x0bn x0bc, vS x0ca x0cn x0cc] 25])) 3 0 [Value.string x32ba, Value.string x32bb, Value.string x32bc] = some H1) (h11 : getCells H1 H.length 3 0 3 = some [vI x37a, vS x37ba x37bn x37bc, vS x37ca x37cn x37cc]) (h12 : cI 18 [Value.agg #[vI x37a, vS x37ba x37bn x37bc, vS x37ca x37cn x37cc]] H.length H1 = some (Value.tuple #[Value.bool x38a, Value.agg #[Value.string x38ba, Value.string x38bb, Value.string x38bc], vI x38c], H1)) (h13 : 3 = 3) (h14 : setCells (H1 ++ [vo [vE, vE, vE] 29]) H.length H1.length 3 0 [Value.string x38ba, Value.string x38bb, Value.string x38bc] = some H2) (h15 : getCells H2 H.length 3 0 3 = some [vI x43a, vS x43ba x43bn x43bc, vS x43ca x43cn x43cc]) (h16 : cI 30 [Value.agg #[vI x43a, vS x43ba x43bn x43bc, vS x43ca x43cn x43cc]] H.length H2 = some (Value.tuple #[vI x44a, Value.bool x44b, vI x44c], H2)) (h17 : getCells H2 H.length 3 0 3 = some [vI x49a, vS x49ba x49bn x49bc, vS x49ca x49cn x49cc]) (h18 : cI 31 [Value.agg #[vI x49a, vS x49ba x49bn x49bc, vS x49ca x49cn x49cc]] H.length H2 = some (Value.tuple #[vI x50a, Value.bool x50b, vI x50c], H2)) (h19 : getCells H2 H.length 3 0 3 = some [vI x55a, vS x55ba x55bn x55bc, vS x55ca x55cn x55cc]) (h20 : cI 23 [Value.agg #[vI x55a, vS x55ba x55bn x55bc, vS x55ca x55cn x55cc], vE, vI 1] H.length H2 = some (Value.tuple #[vS x56aa x56an x56ac, vI x56b], H3)) (h21 : cI 15 [vI x32c] H.length H3 = some (vI x60, H3)) (h22 : cI 15 [vI x38c] H.length H3 = some (vI x62, H3)) (h23 : Fit .i64 (x60 + x62)) (h24 : cI 15 [vI x44c] H.length H3 = some (vI x65, H3)) (h25 : Fit .i64 (x60 + x62 + x65)) (h26 : cI 15 [vI x50c] H.length H3 = some (vI x68, H3)) (h27 : Fit .i64 (x60 + x62 + x65 + x68)) (h28 : cI 15 [vI x56b] H.length H3 = some (vI x71, H3)) (h29 : Fit .i64 (x60 + x62 + x65 + x68 + x71)) (h30 : (x60 + x62 + x65 + x68 + x71 != 0) = false) (h31 : x32a = true) (h32 : x38a = false) (h33 : x50b = true) (h34 : (!x32a == (x50a == -1)) = false) (h35 : ¬(x50a < -1)) (h36 : (!x50b) = false) (h37 : (!x44b == ((↑x56an : Int) == 1)) = false) (h38 : (!x44b) = false) (h39 : ¬(x44a < 0)) (h40 : getCells H3 H.length 3 (0 + 2) 1 = some [vS x120a x120n x120c]) (h41 : ¬(x44a ≥ (↑x120n : Int))) (h42 : getCells H3 H.length 3 0 3 = some [vI x125a, vS x125ba x125bn x125bc, vS x125ca x125cn x125cc]) (h43 : cI 14 [Value.agg #[vI x125a, vS x125ba x125bn x125bc, vS x125ca x125cn x125cc], vI x44a] H.length H3 = some (Value.tuple #[Value.int .u64 x127a, vI x127b], H3)) (h44 : cI 15 [vI x127b] H.length H3 = some (vI x131, H3)) (h45 : (x131 == 0) = false) (h46 : Fit .i64 (x44a + 1)) (h47 : lI a10 0 prot H ([vP H.length 0 3, vI (x44a + 1)], H3) = some (Ex.exit 0, [z2], H4)) : callInf cfg 10 [.agg #[.int .i64 x0a, .slice x0ba x0bn x0bc, .slice x0ca x0cn x0cc]] prot H = some (Value.bool true, H) :=
 fn_of2 a10 [.e, .v (.agg #[vI x22a, vS x22ba x22bn x22bc, vS x22ca x22cn x22cc]), .v (.bool x23), .e, .b false, .v (.bool x26), .b false, .e, .b false, .b false, .v (.agg #[vI x31a, vS x31ba x31bn x31bc, vS x31ca x31cn x31cc]), .v (.tuple #[.bool x32a, .agg #[.string x32ba, .string x32bb, .string x32bc], vI x32c]), .e, .h H1, .v (.agg #[vI x37a, vS x37ba x37bn x37bc, vS x37ca x37cn x37cc]), .v (.tuple #[.bool x38a, .agg #[.string x38ba, .string x38bb, .string x38bc], vI x38c]), .e, .h H2, .v (.agg #[vI x43a, vS x43ba x43bn x43bc, vS x43ca x43cn x43cc]), .v (.tuple #[vI x44a, .bool x44b, vI x44c]), .v (.agg #[vI x49a, vS x49ba x49bn x49bc, vS x49ca x49cn x49cc]), .v (.tuple #[vI x50a, .bool x50b, vI x50c]), .v (.agg #[vI x55a, vS x55ba x55bn x55bc, vS x55ca x55cn x55cc]), .r (.tuple #[vS x56aa x56an x56ac, vI x56b]) H3, .v (vI x60), .v (vI x62), .e, .v (vI x65), .e, .v (vI x68), .e, .v (vI x71), .e, .e, .b false, .b false, .b true, .b false, .b true, .b false, .b false, .b false, .b false, .b true, .b true, .e, .b false, .b true, .b false, .e, .b false, .b false, .b false, .e, .b false, .b false, .b false, .e, .b false, .b false, .b false, .b false, .b false, .b false, .b false, .b false, .b false, .b true, .b true, .e, .b true, .e, .b false, .b true, .b false, .e, .b false, .b false, .e, .b false, .e, .b false, .b false, .b false, .v (vS x120a x120n x120c), .b false, .e, .b false, .e, .b false, .b false, .v (.agg #[vI x125a, vS x125ba x125bn x125bc, vS x125ca x125cn x125cc]), .v (.tuple #[.int .u64 x127a, vI x127b]), .v (vI x131), .e, .b false, .b false, .b false, .b false, .e, .lo (.exit 0, [z2], H4)] (ai h1 (ai h2 (ai h3 (ai h4 (ai h5 (ai h4 (ai h4 (ai h6 (ai h7 (ai h8 (ai h9 (ai h10 (ai h11 (ai h12 (ai h13 (ai h14 (ai h15 (ai h16 (ai h17 (ai h18 (ai h19 (ai h20 (ai h21 (ai h22 (ai h23 (ai h24 (ai h25 (ai h26 (ai h27 (ai h28 (ai h29 (ai h30 (ai h30 (ai h31 (ai h30 (ai h31 (ai h30 (ai h32 (ai h32 (ai h32 (ai h33 (ai h33 (ai h32 (ai h33 (ai h32 (ai h32 (ai h34 (ai h34 (ai h34 (ai (decide_eq_false h35) (ai (decide_eq_false h35) (ai (decide_eq_false h35) (ai h36 (ai h36 (ai (decide_eq_false h35) (ai h36 (ai (decide_eq_false h35) (ai (Eq.refl false) (ai (Eq.refl false) (ai (Eq.refl false) (ai h31 (ai h31 (ai h31 (ai (Eq.refl false) (ai h31 (ai (Eq.refl false) (ai (Eq.refl false) (ai h37 (ai h38 (ai (decide_eq_false h39) (ai (decide_eq_false h39) (ai (decide_eq_false h39) (ai h40 (ai (decide_eq_false h39) (ai (decide_eq_false h39) (ai (decide_eq_false h39) (ai (decide_eq_false h41) (ai h42 (ai h43 (ai h44 (ai h45 (ai h45 (ai h45 (ai (Eq.refl false) (ai h46 (ai h47 (Eq.refl ((Value.bool true, H) : Value × AHeap)))))))))))))))))))))))))))))))))))))))))))))))))))))))))))))))))))))))))))))))))))))))) (by kernel_rfl) rfl
theorem f10_F_12 (h1 : [vI x0a, vS x0ba x0bn x0bc, vS x0ca x0cn x0cc].all isCell = true) (h2 : getCells (H ++ [vo [vI x0a, vS x0ba x0bn x0bc, vS x0ca x0cn x0cc] 25]) H.length 3 0 3 = some [vI x22a, vS x22ba x22bn x22bc, vS x22ca x22cn x22cc]) (h3 : cI 11 [Value.agg #[vI x22a, vS x22ba x22bn x22bc, vS x22ca x22cn x22cc]] H.length (H ++ [vo [vI x0a, vS x0ba x0bn x0bc, vS x0ca x0cn x0cc] 25]) = some (Value.bool x23, H ++ [vo [vI x0a, vS x0ba x0bn x0bc, vS x0ca x0cn x0cc] 25])) (h4 : (!x23) = false) (h5 : cI 12 [] H.length (H ++ [vo [vI x0a, vS x0ba x0bn x0bc, vS x0ca x0cn x0cc] 25]) = some (Value.bool x26, H ++ [vo [vI x0a, vS x0ba x0bn x0bc, vS x0ca x0cn x0cc] 25])) (h6 : (!x26) = false) (h7 : getCells (H ++ [vo [vI x0a, vS x0ba x0bn x0bc, vS x0ca x0cn x0cc] 25]) H.length 3 0 3 = some [vI x31a, vS x31ba x31bn x31bc, vS x31ca x31cn x31cc]) (h8 : cI 13 [Value.agg #[vI x31a, vS x31ba x31bn x31bc, vS x31ca x31cn x31cc]] H.length (H ++ [vo [vI x0a, vS x0ba x0bn x0bc, vS x0ca x0cn x0cc] 25]) = some (Value.tuple #[Value.bool x32a, Value.agg #[Value.string x32ba, Value.string x32bb, Value.string x32bc], vI x32c], H ++ [vo [vI x0a, vS x0ba x0bn x0bc, vS x0ca x0cn x0cc] 25])) (h9 : 3 = 3) (h10 : setCells (H ++ [vo [vI x0a, vS x0ba x0bn x0bc, vS x0ca x0cn x0cc] 25] ++ [vo [vE, vE, vE] 29]) H.length (List.length (H ++ [vo [vI x0a, vS x0ba x0bn x0bc, vS x0ca x0cn x0cc] 25])) 3 0 [Value.string x32ba, Value.string x32bb, Value.string x32bc] = some H1) (h11 : getCells H1 H.length 3 0 3 = some [vI x37a, vS x37ba x37bn x37bc, vS x37ca x37cn x37cc]) (h12 : cI 18 [Value.agg #[vI x37a, vS x37ba x37bn x37bc, vS x37ca x37cn x37cc]] H.length H1 = some (Value.tuple #[Value.bool x38a, Value.agg #[Value.string x38ba, Value.string x38bb, Value.string x38bc], vI x38c], H1)) (h13 : 3 = 3) (h14 : setCells (H1 ++ [vo [vE, vE, vE] 29]) H.length H1.length 3 0 [Value.string x38ba, Value.string x38bb, Value.string x38bc] = some H2) (h15 : getCells H2 H.length 3 0 3 = some [vI x43a, vS x43ba x43bn x43bc, vS x43ca x43cn x43cc]) (h16 : cI 30 [Value.agg #[vI x43a, vS x43ba x43bn x43bc, vS x43ca x43cn x43cc]] H.length H2 = some (Value.tuple #[vI x44a, Value.bool x44b, vI x44c], H2)) (h17 : getCells H2 H.length 3 0 3 = some [vI x49a, vS x49ba x49bn x49bc, vS x49ca x49cn x49cc]) (h18 : cI 31 [Value.agg #[vI x49a, vS x49ba x49bn x49bc, vS x49ca x49cn x49cc]] H.length H2 = some (Value.tuple #[vI x50a, Value.bool x50b, vI x50c], H2)) (h19 : getCells H2 H.length 3 0 3 = some [vI x55a, vS x55ba x55bn x55bc, vS x55ca x55cn x55cc]) (h20 : cI 23 [Value.agg #[vI x55a, vS x55ba x55bn x55bc, vS x55ca x55cn x55cc], vE, vI 1] H.length H2 = some (Value.tuple #[vS x56aa x56an x56ac, vI x56b], H3)) (h21 : cI 15 [vI x32c] H.length H3 = some (vI x60, H3)) (h22 : cI 15 [vI x38c] H.length H3 = some (vI x62, H3)) (h23 : Fit .i64 (x60 + x62)) (h24 : cI 15 [vI x44c] H.length H3 = some (vI x65, H3)) (h25 : Fit .i64 (x60 + x62 + x65)) (h26 : cI 15 [vI x50c] H.length H3 = some (vI x68, H3)) (h27 : Fit .i64 (x60 + x62 + x65 + x68)) (h28 : cI 15 [vI x56b] H.length H3 = some (vI x71, H3)) (h29 : Fit .i64 (x60 + x62 + x65 + x68 + x71)) (h30 : (x60 + x62 + x65 + x68 + x71 != 0) = false) (h31 : x32a = true) (h32 : x38a = false) (h33 : x50b = true) (h34 : (!x32a == (x50a == -1)) = false) (h35 : ¬(x50a < -1)) (h36 : (!x50b) = false) (h37 : (!x44b == ((↑x56an : Int) == 1)) = false) (h38 : (!x44b) = true) : callInf cfg 10 [.agg #[.int .i64 x0a, .slice x0ba x0bn x0bc, .slice x0ca x0cn x0cc]] prot H = some (Value.bool (x44a == 0), H) :=
 fn_of2 a10 [.e, .v (.agg #[vI x22a, vS x22ba x22bn x22bc, vS x22ca x22cn x22cc]), .v (.bool x23), .e, .b false, .v (.bool x26), .b false, .e, .b false, .b false, .v (.agg #[vI x31a, vS x31ba x31bn x31bc, vS x31ca x31cn x31cc]), .v (.tuple #[.bool x32a, .agg #[.string x32ba, .string x32bb, .string x32bc], vI x32c]), .e, .h H1, .v (.agg #[vI x37a, vS x37ba x37bn x37bc, vS x37ca x37cn x37cc]), .v (.tuple #[.bool x38a, .agg #[.string x38ba, .string x38bb, .string x38bc], vI x38c]), .e, .h H2, .v (.agg #[vI x43a, vS x43ba x43bn x43bc, vS x43ca x43cn x43cc]), .v (.tuple #[vI x44a, .bool x44b, vI x44c]), .v (.agg #[vI x49a, vS x49ba x49bn x49bc, vS x49ca x49cn x49cc]), .v (.tuple #[vI x50a, .bool x50b, vI x50c]), .v (.agg #[vI x55a, vS x55ba x55bn x55bc, vS x55ca x55cn x55cc]), .r (.tuple #[vS x56aa x56an x56ac, vI x56b]) H3, .v (vI x60), .v (vI x62), .e, .v (vI x65), .e, .v (vI x68), .e, .v (vI x71), .e, .e, .b false, .b false, .b true, .b false, .b true, .b false, .b false, .b false, .b false, .b true, .b true, .e, .b false, .b true, .b false, .e, .b false, .b false, .b false, .e, .b false, .b false, .b false, .e, .b false, .b false, .b false, .b false, .b false, .b false, .b false, .b false, .b false, .b true, .b true, .e, .b true, .e, .b false, .b true, .b false, .e, .b false, .b false, .e, .b true, .e] (ai h1 (ai h2 (ai h3 (ai h4 (ai h5 (ai h4 (ai h4 (ai h6 (ai h7 (ai h8 (ai h9 (ai h10 (ai h11 (ai h12 (ai h13 (ai h14 (ai h15 (ai h16 (ai h17 (ai h18 (ai h19 (ai h20 (ai h21 (ai h22 (ai h23 (ai h24 (ai h25 (ai h26 (ai h27 (ai h28 (ai h29 (ai h30 (ai h30 (ai h31 (ai h30 (ai h31 (ai h30 (ai h32 (ai h32 (ai h32 (ai h33 (ai h33 (ai h32 (ai h33 (ai h32 (ai h32 (ai h34 (ai h34 (ai h34 (ai (decide_eq_false h35) (ai (decide_eq_false h35) (ai (decide_eq_false h35) (ai h36 (ai h36 (ai (decide_eq_false h35) (ai h36 (ai (decide_eq_false h35) (ai (Eq.refl false) (ai (Eq.refl false) (ai (Eq.refl false) (ai h31 (ai h31 (ai h31 (ai (Eq.refl false) (ai h31 (ai (Eq.refl false) (ai (Eq.refl false) (ai h37 (ai h38 (Eq.refl ((Value.bool (x44a == 0), H) : Value × AHeap))))))))))))))))))))))))))))))))))))))))))))))))))))))))))))))))))))))) (by kernel_rfl) rfl
theorem f10_F_35 (h1 : [vI x0a, vS x0ba x0bn x0bc, vS x0ca x0cn x0cc].all isCell = true) (h2 : getCells (H ++ [vo [vI x0a, vS x0ba x0bn x0bc, vS x0ca x0cn x0cc] 25]) H.length 3 0 3 = some [vI x22a, vS x22ba x22bn x22bc, vS x22ca x22cn x22cc]) (h3 : cI 11 [Value.agg #[vI x22a, vS x22ba x22bn x22bc, vS x22ca x22cn x22cc]] H.length (H ++ [vo [vI x0a, vS x0ba x0bn x0bc, vS x0ca x0cn x0cc] 25]) = some (Value.bool x23, H ++ [vo [vI x0a, vS x0ba x0bn x0bc, vS x0ca x0cn x0cc] 25])) (h4 : (!x23) = false) (h5 : cI 12 [] H.length (H ++ [vo [vI x0a, vS x0ba x0bn x0bc, vS x0ca x0cn x0cc] 25]) = some (Value.bool x26, H ++ [vo [vI x0a, vS x0ba x0bn x0bc, vS x0ca x0cn x0cc] 25])) (h6 : (!x26) = false) (h7 : getCells (H ++ [vo [vI x0a, vS x0ba x0bn x0bc, vS x0ca x0cn x0cc] 25]) H.length 3 0 3 = some [vI x31a, vS x31ba x31bn x31bc, vS x31ca x31cn x31cc]) (h8 : cI 13 [Value.agg #[vI x31a, vS x31ba x31bn x31bc, vS x31ca x31cn x31cc]] H.length (H ++ [vo [vI x0a, vS x0ba x0bn x0bc, vS x0ca x0cn x0cc] 25]) = some (Value.tuple #[Value.bool x32a, Value.agg #[Value.string x32ba, Value.string x32bb, Value.string x32bc], vI x32c], H ++ [vo [vI x0a, vS x0ba x0bn x0bc, vS x0ca x0cn x0cc] 25])) (h9 : 3 = 3) (h10 : setCells (H ++ [vo [vI x0a, vS x0ba x0bn x0bc, vS x0ca x0cn x0cc] 25] ++ [vo [vE, vE, vE] 29]) H.length (List.length (H ++ [vo [vI x0a, vS x0ba x0bn x0bc, vS x0ca x0cn x0cc] 25])) 3 0 [Value.string x32ba, Value.string x32bb, Value.string x32bc] = some H1) (h11 : getCells H1 H.length 3 0 3 = some [vI x37a, vS x37ba x37bn x37bc, vS x37ca x37cn x37cc]) (h12 : cI 18 [Value.agg #[vI x37a, vS x37ba x37bn x37bc, vS x37ca x37cn x37cc]] H.length H1 = some (Value.tuple #[Value.bool x38a, Value.agg #[Value.string x38ba, Value.string x38bb, Value.string x38bc], vI x38c], H1)) (h13 : 3 = 3) (h14 : setCells (H1 ++ [vo [vE, vE, vE] 29]) H.length H1.length 3 0 [Value.string x38ba, Value.string x38bb, Value.string x38bc] = some H2) (h15 : getCells H2 H.length 3 0 3 = some [vI x43a, vS x43ba x43bn x43bc, vS x43ca x43cn x43cc]) (h16 : cI 30 [Value.agg #[vI x43a, vS x43ba x43bn x43bc, vS x43ca x43cn x43cc]] H.length H2 = some (Value.tuple #[vI x44a, Value.bool x44b, vI x44c], H2)) (h17 : getCells H2 H.length 3 0 3 = some [vI x49a, vS x49ba x49bn x49bc, vS x49ca x49cn x49cc]) (h18 : cI 31 [Value.agg #[vI x49a, vS x49ba x49bn x49bc, vS x49ca x49cn x49cc]] H.length H2 = some (Value.tuple #[vI x50a, Value.bool x50b, vI x50c], H2)) (h19 : getCells H2 H.length 3 0 3 = some [vI x55a, vS x55ba x55bn x55bc, vS x55ca x55cn x55cc]) (h20 : cI 23 [Value.agg #[vI x55a, vS x55ba x55bn x55bc, vS x55ca x55cn x55cc], vE, vI 1] H.length H2 = some (Value.tuple #[vS x56aa x56an x56ac, vI x56b], H3)) (h21 : cI 15 [vI x32c] H.length H3 = some (vI x60, H3)) (h22 : cI 15 [vI x38c] H.length H3 = some (vI x62, H3)) (h23 : Fit .i64 (x60 + x62)) (h24 : cI 15 [vI x44c] H.length H3 = some (vI x65, H3)) (h25 : Fit .i64 (x60 + x62 + x65)) (h26 : cI 15 [vI x50c] H.length H3 = some (vI x68, H3)) (h27 : Fit .i64 (x60 + x62 + x65 + x68)) (h28 : cI 15 [vI x56b] H.length H3 = some (vI x71, H3)) (h29 : Fit .i64 (x60 + x62 + x65 + x68 + x71)) (h30 : (x60 + x62 + x65 + x68 + x71 != 0) = false) (h31 : x32a = false) (h32 : x50b = true) (h33 : (!x32a == (x50a == -1)) = false) (h34 : ¬(x50a < -1)) (h35 : (!x50b) = false) (h36 : (!x44b == false) = false) (h37 : (!x44b) = true) : callInf cfg 10 [.agg #[.int .i64 x0a, .slice x0ba x0bn x0bc, .slice x0ca x0cn x0cc]] prot H = some (Value.bool (x44a == 0), H) :=
 fn_of2 a10 [.e, .v (.agg #[vI x22a, vS x22ba x22bn x22bc, vS x22ca x22cn x22cc]), .v (.bool x23), .e, .b false, .v (.bool x26), .b false, .e, .b false, .b false, .v (.agg #[vI x31a, vS x31ba x31bn x31bc, vS x31ca x31cn x31cc]), .v (.tuple #[.bool x32a, .agg #[.string x32ba, .string x32bb, .string x32bc], vI x32c]), .e, .h H1, .v (.agg #[vI x37a, vS x37ba x37bn x37bc, vS x37ca x37cn x37cc]), .v (.tuple #[.bool x38a, .agg #[.string x38ba, .string x38bb, .string x38bc], vI x38c]), .e, .h H2, .v (.agg #[vI x43a, vS x43ba x43bn x43bc, vS x43ca x43cn x43cc]), .v (.tuple #[vI x44a, .bool x44b, vI x44c]), .v (.agg #[vI x49a, vS x49ba x49bn x49bc, vS x49ca x49cn x49cc]), .v (.tuple #[vI x50a, .bool x50b, vI x50c]), .v (.agg #[vI x55a, vS x55ba x55bn x55bc, vS x55ca x55cn x55cc]), .r (.tuple #[vS x56aa x56an x56ac, vI x56b]) H3, .v (vI x60), .v (vI x62), .e, .v (vI x65), .e, .v (vI x68), .e, .v (vI x71), .e, .e, .b false, .b false, .b false, .b false, .b false, .b false, .b false, .b false, .b false, .b true, .b true, .e, .b false, .b true, .b false, .e, .b false, .b false, .b false, .e, .b false, .b false, .b false, .e, .b false, .b false, .b false, .b false, .b false, .b false, .b false, .b false, .b false, .b false, .b false, .b false, .b false, .b false, .b false, .e, .b false, .b false, .e, .b true, .e] (ai h1 (ai h2 (ai h3 (ai h4 (ai h5 (ai h4 (ai h4 (ai h6 (ai h7 (ai h8 (ai h9 (ai h10 (ai h11 (ai h12 (ai h13 (ai h14 (ai h15 (ai h16 (ai h17 (ai h18 (ai h19 (ai h20 (ai h21 (ai h22 (ai h23 (ai h24 (ai h25 (ai h26 (ai h27 (ai h28 (ai h29 (ai h30 (ai h30 (ai h31 (ai h30 (ai h31 (ai h30 (ai (Eq.refl false) (ai (Eq.refl false) (ai (Eq.refl false) (ai h32 (ai h32 (ai (Eq.refl false) (ai h32 (ai (Eq.refl false) (ai (Eq.refl false) (ai h33 (ai h33 (ai h33 (ai (decide_eq_false h34) (ai (decide_eq_false h34) (ai (decide_eq_false h34) (ai h35 (ai h35 (ai (decide_eq_false h34) (ai h35 (ai (decide_eq_false h34) (ai (Eq.refl false) (ai (Eq.refl false) (ai (Eq.refl false) (ai h31 (ai h31 (ai h31 (ai (Eq.refl false) (ai h31 (ai (Eq.refl false) (ai (Eq.refl false) (ai h36 (ai h37 (Eq.refl ((Value.bool (x44a == 0), H) : Value × AHeap))))))))))))))))))))))))))))))))))))))))))))))))))))))))))))))))))))))) (by kernel_rfl) rfl
theorem f10_F_47 (h1 : [vI x0a, vS x0ba x0bn x0bc, vS x0ca x0cn x0cc].all isCell = true) (h2 : getCells (H ++ [vo [vI x0a, vS x0ba x0bn x0bc, vS x0ca x0cn x0cc] 25]) H.length 3 0 3 = some [vI x22a, vS x22ba x22bn x22bc, vS x22ca x22cn x22cc]) (h3 : cI 11 [Value.agg #[vI x22a, vS x22ba x22bn x22bc, vS x22ca x22cn x22cc]] H.length (H ++ [vo [vI x0a, vS x0ba x0bn x0bc, vS x0ca x0cn x0cc] 25]) = some (Value.bool x23, H ++ [vo [vI x0a, vS x0ba x0bn x0bc, vS x0ca x0cn x0cc] 25])) (h4 : (!x23) = false) (h5 : cI 12 [] H.length (H ++ [vo [vI x0a, vS x0ba x0bn x0bc, vS x0ca x0cn x0cc] 25]) = some (Value.bool x26, H ++ [vo [vI x0a, vS x0ba x0bn x0bc, vS x0ca x0cn x0cc] 25])) (h6 : (!x26) = false) (h7 : getCells (H ++ [vo [vI x0a, vS x0ba x0bn x0bc, vS x0ca x0cn x0cc] 25]) H.length 3 0 3 = some [vI x31a, vS x31ba x31bn x31bc, vS x31ca x31cn x31cc]) (h8 : cI 13 [Value.agg #[vI x31a, vS x31ba x31bn x31bc, vS x31ca x31cn x31cc]] H.length (H ++ [vo [vI x0a, vS x0ba x0bn x0bc, vS x0ca x0cn x0cc] 25]) = some (Value.tuple #[Value.bool x32a, Value.agg #[Value.string x32ba, Value.string x32bb, Value.string x32bc], vI x32c], H ++ [vo [vI x0a, vS x0ba x0bn x0bc, vS x0ca x0cn x0cc] 25])) (h9 : 3 = 3) (h10 : setCells (H ++ [vo [vI x0a, vS x0ba x0bn x0bc, vS x0ca x0cn x0cc] 25] ++ [vo [vE, vE, vE] 29]) H.length (List.length (H ++ [vo [vI x0a, vS x0ba x0bn x0bc, vS x0ca x0cn x0cc] 25])) 3 0 [Value.string x32ba, Value.string x32bb, Value.string x32bc] = some H1) (h11 : getCells H1 H.length 3 0 3 = some [vI x37a, vS x37ba x37bn x37bc, vS x37ca x37cn x37cc]) (h12 : cI 18 [Value.agg #[vI x37a, vS x37ba x37bn x37bc, vS x37ca x37cn x37cc]] H.length H1 = some (Value.tuple #[Value.bool x38a, Value.agg #[Value.string x38ba, Value.string x38bb, Value.string x38bc], vI x38c], H1)) (h13 : 3 = 3) (h14 : setCells (H1 ++ [vo [vE, vE, vE] 29]) H.length H1.length 3 0 [Value.string x38ba, Value.string x38bb, Value.string x38bc] = some H2) (h15 : getCells H2 H.length 3 0 3 = some [vI x43a, vS x43ba x43bn x43bc, vS x43ca x43cn x43cc]) (h16 : cI 30 [Value.agg #[vI x43a, vS x43ba x43bn x43bc, vS x43ca x43cn x43cc]] H.length H2 = some (Value.tuple #[vI x44a, Value.bool x44b, vI x44c], H2)) (h17 : getCells H2 H.length 3 0 3 = some [vI x49a, vS x49ba x49bn x49bc, vS x49ca x49cn x49cc]) (h18 : cI 31 [Value.agg #[vI x49a, vS x49ba x49bn x49bc, vS x49ca x49cn x49cc]] H.length H2 = some (Value.tuple #[vI x50a, Value.bool x50b, vI x50c], H2)) (h19 : getCells H2 H.length 3 0 3 = some [vI x55a, vS x55ba x55bn x55bc, vS x55ca x55cn x55cc]) (h20 : cI 23 [Value.agg #[vI x55a, vS x55ba x55bn x55bc, vS x55ca x55cn x55cc], vE, vI 1] H.length H2 = some (Value.tuple #[vS x56aa x56an x56ac, vI x56b], H3)) (h21 : cI 15 [vI x32c] H.length H3 = some (vI x60, H3)) (h22 : cI 15 [vI x38c] H.length H3 = some (vI x62, H3)) (h23 : Fit .i64 (x60 + x62)) (h24 : cI 15 [vI x44c] H.length H3 = some (vI x65, H3)) (h25 : Fit .i64 (x60 + x62 + x65)) (h26 : cI 15 [vI x50c] H.length H3 = some (vI x68, H3)) (h27 : Fit .i64 (x60 + x62 + x65 + x68)) (h28 : cI 15 [vI x56b] H.length H3 = some (vI x71, H3)) (h29 : Fit .i64 (x60 + x62 + x65 + x68 + x71)) (h30 : (x60 + x62 + x65 + x68 + x71 != 0) = false) (h31 : x32a = false) (h32 : x50b = false) (h33 : (!x32a == false) = false) (h34 : ¬(x50a < -1)) (h35 : (!x50b) = true) (h36 : (x50a != 0) = false) (h37 : (!x44b == false) = false) (h38 : (!x44b) = true) : callInf cfg 10 [.agg #[.int .i64 x0a, .slice x0ba x0bn x0bc, .slice x0ca x0cn x0cc]] prot H = some (Value.bool (x44a == 0), H) :=
 fn_of2 a10 [.e, .v (.agg #[vI x22a, vS x22ba x22bn x22bc, vS x22ca x22cn x22cc]), .v (.bool x23), .e, .b false, .v (.bool x26), .b false, .e, .b false, .b false, .v (.agg #[vI x31a, vS x31ba x31bn x31bc, vS x31ca x31cn x31cc]), .v (.tuple #[.bool x32a, .agg #[.string x32ba, .string x32bb, .string x32bc], vI x32c]), .e, .h H1, .v (.agg #[vI x37a, vS x37ba x37bn x37bc, vS x37ca x37cn x37cc]), .v (.tuple #[.bool x38a, .agg #[.string x38ba, .string x38bb, .string x38bc], vI x38c]), .e, .h H2, .v (.agg #[vI x43a, vS x43ba x43bn x43bc, vS x43ca x43cn x43cc]), .v (.tuple #[vI x44a, .bool x44b, vI x44c]), .v (.agg #[vI x49a, vS x49ba x49bn x49bc, vS x49ca x49cn x49cc]), .v (.tuple #[vI x50a, .bool x50b, vI x50c]), .v (.agg #[vI x55a, vS x55ba x55bn x55bc, vS x55ca x55cn x55cc]), .r (.tuple #[vS x56aa x56an x56ac, vI x56b]) H3, .v (vI x60), .v (vI x62), .e, .v (vI x65), .e, .v (vI x68), .e, .v (vI x71), .e, .e, .b false, .b false, .b false, .b false, .b false, .b false, .b false, .b false, .b false, .b false, .b false, .b false, .b false, .b false, .e, .b false, .b false, .b false, .e, .b false, .b false, .b false, .e, .b false, .b true, .b true, .e, .b false, .b true, .b false, .b false, .b false, .b false, .b false, .b false, .b false, .b false, .b false, .b false, .e, .b false, .b false, .e, .b true, .e] (ai h1 (ai h2 (ai h3 (ai h4 (ai h5 (ai h4 (ai h4 (ai h6 (ai h7 (ai h8 (ai h9 (ai h10 (ai h11 (ai h12 (ai h13 (ai h14 (ai h15 (ai h16 (ai h17 (ai h18 (ai h19 (ai h20 (ai h21 (ai h22 (ai h23 (ai h24 (ai h25 (ai h26 (ai h27 (ai h28 (ai h29 (ai h30 (ai h30 (ai h31 (ai h30 (ai h31 (ai h30 (ai (Eq.refl false) (ai (Eq.refl false) (ai (Eq.refl false) (ai h32 (ai h32 (ai (Eq.refl false) (ai h32 (ai (Eq.refl false) (ai (Eq.refl false) (ai h33 (ai h33 (ai h33 (ai (decide_eq_false h34) (ai (decide_eq_false h34) (ai (decide_eq_false h34) (ai h35 (ai h35 (ai (decide_eq_false h34) (ai h35 (ai (decide_eq_false h34) (ai h36 (ai h36 (ai h36 (ai h31 (ai h31 (ai h31 (ai h36 (ai h31 (ai h36 (ai h36 (ai h37 (ai h38 (Eq.refl ((Value.bool (x44a == 0), H) : Value × AHeap))))))))))))))))))))))))))))))))))))))))))))))))))))))))))))))))))))))) (by kernel_rfl) rfl
theorem f10_F_49 (h1 : [vI x0a, vS x0ba x0bn x0bc, vS x0ca x0cn x0cc].all isCell = true) (h2 : getCells (H ++ [vo [vI x0a, vS x0ba x0bn x0bc, vS x0ca x0cn x0cc] 25]) H.length 3 0 3 = some [vI x22a, vS x22ba x22bn x22bc, vS x22ca x22cn x22cc]) (h3 : cI 11 [Value.agg #[vI x22a, vS x22ba x22bn x22bc, vS x22ca x22cn x22cc]] H.length (H ++ [vo [vI x0a, vS x0ba x0bn x0bc, vS x0ca x0cn x0cc] 25]) = some (Value.bool x23, H ++ [vo [vI x0a, vS x0ba x0bn x0bc, vS x0ca x0cn x0cc] 25])) (h4 : (!x23) = true) (h5 : cI 12 [] H.length (H ++ [vo [vI x0a, vS x0ba x0bn x0bc, vS x0ca x0cn x0cc] 25]) = some (Value.bool x29, H ++ [vo [vI x0a, vS x0ba x0bn x0bc, vS x0ca x0cn x0cc] 25])) : callInf cfg 10 [.agg #[.int .i64 x0a, .slice x0ba x0bn x0bc, .slice x0ca x0cn x0cc]] prot H = some (Value.bool x29, H) :=
 fn_of2 a10 [.e, .v (.agg #[vI x22a, vS x22ba x22bn x22bc, vS x22ca x22cn x22cc]), .v (.bool x23), .e, .b true, .b true, .b true, .b true, .v (.bool x29)] (ai h1 (ai h2 (ai h3 (ai h4 (ai h4 (ai h4 (ai (Eq.refl true) (ai h5 (Eq.refl ((Value.bool x29, H) : Value × AHeap)))))))))) (by kernel_rfl) rfl
theorem f10_L0_2 (h1 : getCells H x1p x1l (x1o + 2) 1 = some [vS x141a x141n x141c]) (h2 : Fit .i64 (2 * (↑x141n : Int))) (h3 : x19 < 2 * (↑x141n : Int)) (h4 : getCells H x1p x1l x1o 3 = some [vI x148a, vS x148ba x148bn x148bc, vS x148ca x148cn x148cc]) (h5 : cI 14 [Value.agg #[vI x148a, vS x148ba x148bn x148bc, vS x148ca x148cn x148cc], vI x19] H0.length H = some (Value.tuple #[Value.int .u64 x150a, vI x150b], H)) (h6 : cI 15 [vI x150b] H0.length H = some (vI x154, H)) (h7 : (x154 != 0) = false) (h8 : (x150a != 0) = false) (h9 : Fit .i64 (x19 + 1)) : lpOf cfg a10 0 prot H0 ([.pointer (some ⟨x1p, x1o, some x1l⟩), .int .i64 x19], H) = some (Sum.inl ([Value.pointer (some ⟨x1p, x1o, some x1l⟩), Value.int .i64 (x19 + 1)], H)) :=
 lp_of2 [.v (vS x141a x141n x141c), .e, .e, .e, .b true, .v (.agg #[vI x148a, vS x148ba x148bn x148bc, vS x148ca x148cn x148cc]), .v (.tuple #[.int .u64 x150a, vI x150b]), .v (vI x154), .e, .b false, .b false, .e, .b false, .b false, .e] (ai h1 (ai h2 (ai (decide_eq_true h3) (ai h4 (ai h5 (ai h6 (ai h7 (ai h7 (ai h7 (ai h8 (ai h9 (Eq.refl (Sum.inl ([vP x1p x1o x1l, vI (x19 + 1)], H) : LS ⊕ LO))))))))))))) (by kernel_rfl)
theorem f10_L0_3 (h1 : getCells H x1p x1l (x1o + 2) 1 = some [vS x141a x141n x141c]) (h2 : Fit .i64 (2 * (↑x141n : Int))) (h3 : ¬(x19 < 2 * (↑x141n : Int))) : lpOf cfg a10 0 prot H0 ([.pointer (some ⟨x1p, x1o, some x1l⟩), .int .i64 x19], H) = some (Sum.inr (Ex.exit 0, [Value.tuple { toList := [] }], H)) :=
 lp_of2 [.v (vS x141a x141n x141c), .e, .e, .e, .b false] (ai h1 (ai h2 (ai (decide_eq_false h3) (Eq.refl (Sum.inr (Ex.exit 0, [Value.tuple #[]], H) : LS ⊕ LO))))) (by kernel_rfl)
end
end Go.Proofs.Ythjkodbinkiifaa.Am23
namespace Go.Proofs.Ythjkodbinkiifaa.Am23
open Go Go.Proofs.Ythjkodbinkiifaa.Am
/-- No longer word. -/
theorem loop10 {k : Nat} {xs : List Int} {bs : List Bool} (hG : Good k xs bs) (h0 : chkG k xs bs = 0) {H0 H : AHeap} {prot : Nat} {vN vA : Value} (hbx : H[H0.length]? = some (bx k vN vA)) (hA : IsA H xs bs vN vA) : ∀ (d i : Nat), i + d = 2 * bs.length → (∀ n, i ≤ n → (rowC k xs bs n).getD 0 0 = 0) →
  lpInf (lpOf cfg a10 0 prot H0) ([.pointer (some ⟨H0.length, 0, some 3⟩), .int .i64 i], H) = some (.exit 0, [.tuple #[]], H)
 | 0, i, hi, hz => by
  have hb5 := hG.n5
  obtain ⟨_, _, g2, _⟩ := fld3 hbx
  obtain ⟨_, _, rfl⟩ := hA.a.len
  exact lp_last (f10_L0_3 g2 (fit64 (by omega) (by omega)) (by omega))
 | d + 1, i, hi, hz => by
  have hb5 := hG.n5
  obtain ⟨_, _, g2, g3⟩ := fld3 hbx
  have h14 := c14 (k := (k : Int)) (n := (i : Int)) H0.length H hA
  have hv : countV k xs bs (i : Int) = (0, 0) := by
   unfold countV
   rw [if_pos h0, if_neg (by omega), if_neg (by omega), Int.toNat_natCast, Int.toNat_natCast, hz i (Nat.le_refl _)]
   rfl
  rw [hv] at h14
  have ih := loop10 hG h0 (prot := prot) hbx hA d (i + 1) (by omega) (fun n hn => hz n (by omega))
  obtain ⟨_, _, rfl⟩ := hA.n.len
  obtain ⟨_, _, rfl⟩ := hA.a.len
  exact lp_next (f10_L0_2 g2 (fit64 (by omega) (by omega)) (by omega) g3 h14 f15_F_0 rfl rfl (fit64 (by omega) (by omega))) ih
theorem law10 {k : Int} {xs : List Int} {bs : List Bool} {vN vA : Value} (prot : Nat) (H : AHeap) (hA : IsA H xs bs vN vA) :
  callInf cfg 10 [av k vN vA] prot H = some (.bool true, H) := by
 obtain ⟨HX, hHX⟩ : ∃ HX, HX = H ++ [bx k vN vA] := ⟨_, rfl⟩
 have lX : HX.length = H.length + 1 := by rw [hHX]; simp
 have sX : Stay none H HX := by rw [hHX]; exact Stay.app none H _
 have hgX : HX[H.length]? = some (bx k vN vA) := by rw [hHX]; exact append_get.1
 have hAX := hA.stay sX
 have hck := c11 (k := k) H.length HX hAX
 by_cases h0 : chkG k xs bs = 0
 ·rw [decide_eq_true h0] at hck
  obtain ⟨k, rfl, hG⟩ := good_of h0
  have hb1 := hG.n1
  have hb5 := hG.n5
  have hcx : chkG k xs (bs.map (!·)) = 0 := by
   have : chkG k xs (bs.map (!·)) = chkG k xs bs := by unfold chkG good; simp only [List.length_map]
   rw [this]; exact h0
  have h13 := c13 (k := (k : Int)) H.length HX hAX
  have hv1 : finV k xs bs = ((boundV k xs bs).1, (boundV k xs bs).2, 0) := by unfold finV; rw [if_pos h0, Int.toNat_natCast]
  have hv2 : finV k xs (bs.map (!·)) = ((boundV k xs (bs.map (!·))).1, (boundV k xs (bs.map (!·))).2, 0) := by unfold finV; rw [if_pos hcx, Int.toNat_natCast]
  rw [hv1] at h13
  obtain ⟨H1, p1, p2, p3⟩ := pump_new (H := HX) (prot := H.length) (by omega) (boundV k xs bs).2
  have l1 := p3.1
  have lp2 := (List.getElem?_eq_some_iff.1 p2).1
  have h18 := c18 (k := (k : Int)) H.length H1 (hAX.stay p3)
  rw [hv2] at h18
  obtain ⟨H2, q1, q2, q3⟩ := pump_new (H := H1) (prot := H.length) (by omega) (boundV k xs (bs.map (!·))).2
  have l2 := q3.1
  have hg1 : H1[H.length]? = some (bx k vN vA) := by rw [p3.2 _ (by omega) (by simp)]; exact hgX
  have hg2 : H2[H.length]? = some (bx k vN vA) := by rw [q3.2 _ (by omega) (by simp)]; exact hg1
  have hA2 := hAX.stay (p3.trans q3)
  have hk := cKnows H.length HX
  have h30 := c30 (k := (k : Int)) H.length H2 hA2
  have h31 := c31 (k := (k : Int)) H.length H2 hA2
  obtain ⟨X, oX, H3, w1, w2, w3, w4⟩ := c23 (k := (k : Int)) ByteArray.empty 1 H.length H2 hA2
  rw [words_err hG h0] at w1
  rw [h0] at h30 h31
  have hg3 : H3[H.length]? = some (bx k vN vA) := by rw [w3.2 _ (by omega) (by simp)]; exact hg2
  have hA3 := hA2.stay w3
  have hlv : longV k xs bs = if (boundV k xs bs).1 = true ∧ uB k xs bs 0 = true then (hU k xs bs 0, true) else (0, false) := by
   unfold longV
   rw [Int.toNat_natCast]
   by_cases hc : (boundV k xs bs).1 = true ∧ uB k xs bs 0 = true
   ·rw [if_pos ⟨h0, hc.1, hc.2⟩, if_pos hc]
   ·rw [if_neg (fun h => hc ⟨h.2.1, h.2.2⟩), if_neg hc]
  obtain ⟨aW, cW, hXe⟩ := w2.len
  have hAl := hA.a.len
  have hNl := hA.n.len
  have hz : ∀ {a b : Int}, a = 0 → b = 0 → Fit .i64 (a + b) := fun {a b} h1 h2 => by subst h1; subst h2; exact fit64 (by omega) (by omega)
  subst hXe
  cases hb : (boundV k xs bs).1 with
  | true =>
   have hc : (boundV k xs (bs.map (!·))).1 = false := by
    cases hc : (boundV k xs (bs.map (!·))).1 with
    | true => exact (not_both hG hb hc).elim
    | false => rfl
   rw [hb] at h13
   rw [hc] at h18
   obtain ⟨_, hone⟩ := words_one hG h0 hb
   rw [grow_fin hG h0 hb] at h31
   by_cases hu : uB k xs bs 0 = true
   ·rw [if_pos ⟨hb, hu⟩] at hlv
    rw [hlv] at h30
    rw [if_pos hu] at hone
    have hlt := (hU_edges hG hb).lt 0 hb1
    obtain ⟨w, v1, v2, v3⟩ := high_word hG hb (hU k xs bs 0) 0 hu rfl
    have hpos := (row_pos hG (hU k xs bs 0) 0 (by omega)).2 ⟨w, v1, v2, v3⟩
    have hzero : ∀ n, hU k xs bs 0 + 1 ≤ n → (rowC k xs bs n).getD 0 0 = 0 := fun n hn => by
     rcases Nat.eq_zero_or_pos ((rowC k xs bs n).getD 0 0) with h | h
     ·exact h
     ·obtain ⟨u, u1, u2, u3⟩ := (row_pos hG n 0 (by omega)).1 h
      have := word_high hG hb u 0 hu u1 u3
      omega
    have hlp := loop10 hG h0 (prot := prot) hg3 hA3 (2 * bs.length - (hU k xs bs 0 + 1)) (hU k xs bs 0 + 1) (by omega) hzero
    have h14 := c14 (k := (k : Int)) (n := ((hU k xs bs 0 : Nat) : Int)) H.length H3 hA3
    unfold countV at h14
    rw [if_pos h0, if_neg (by omega), if_neg (by omega), Int.toNat_natCast, Int.toNat_natCast] at h14
    obtain ⟨aN, cN, rfl⟩ := hNl
    obtain ⟨aA, cA, rfl⟩ := hAl
    obtain ⟨_, _, _, gX⟩ := fld3 hgX
    obtain ⟨_, _, _, f1⟩ := fld3 hg1
    obtain ⟨_, _, _, f2⟩ := fld3 hg2
    obtain ⟨_, _, e3, f3⟩ := fld3 hg3
    rw [hone] at w1
    subst hHX
    by_cases hbig : 18446744073709551616 ≤ (rowC k xs bs (hU k xs bs 0)).getD 0 0
    ·rw [if_pos hbig] at h14
     exact f10_F_10 all3 gX hck rfl hk rfl gX h13 rfl p1 f1 h18 rfl q1 f2 h30 f2 h31 f2 w1 f15_F_0 f15_F_0 (hz rfl rfl) f15_F_0 (hz rfl rfl) f15_F_0 (hz rfl rfl) f15_F_0 (hz rfl rfl) rfl rfl rfl rfl rfl (by omega) rfl rfl rfl (by dsimp only; omega) e3 (by dsimp only; omega) f3 h14 f15_F_0 rfl (fit64 (by dsimp only; omega) (by dsimp only; omega)) hlp
    ·rw [if_neg hbig] at h14
     have hne : ((((rowC k xs bs (hU k xs bs 0)).getD 0 0 : Nat) : Int) == 0) = false := beq_eq_false_iff_ne.2 (by omega)
     exact f10_F_8 all3 gX hck rfl hk rfl gX h13 rfl p1 f1 h18 rfl q1 f2 h30 f2 h31 f2 w1 f15_F_0 f15_F_0 (hz rfl rfl) f15_F_0 (hz rfl rfl) f15_F_0 (hz rfl rfl) f15_F_0 (hz rfl rfl) rfl rfl rfl rfl rfl (by omega) rfl rfl rfl (by dsimp only; omega) e3 (by dsimp only; omega) f3 h14 f15_F_0 rfl hne (fit64 (by dsimp only; omega) (by dsimp only; omega)) hlp
   ·rw [if_neg (fun h => hu h.2)] at hlv
    rw [hlv] at h30
    rw [if_neg hu] at hone
    rw [hone] at w1
    obtain ⟨aN, cN, rfl⟩ := hNl
    obtain ⟨aA, cA, rfl⟩ := hAl
    obtain ⟨_, _, _, gX⟩ := fld3 hgX
    obtain ⟨_, _, _, f1⟩ := fld3 hg1
    obtain ⟨_, _, _, f2⟩ := fld3 hg2
    subst hHX
    exact f10_F_12 all3 gX hck rfl hk rfl gX h13 rfl p1 f1 h18 rfl q1 f2 h30 f2 h31 f2 w1 f15_F_0 f15_F_0 (hz rfl rfl) f15_F_0 (hz rfl rfl) f15_F_0 (hz rfl rfl) f15_F_0 (hz rfl rfl) rfl rfl rfl rfl rfl (by omega) rfl rfl rfl
  | false =>
   rw [hb] at h13
   rw [if_neg (fun h => by rw [hb] at h; cases h.1)] at hlv
   rw [hlv] at h30
   have hlow := grow_low (k := (k : Int)) (xs := xs) (bs := bs)
   obtain ⟨aN, cN, rfl⟩ := hNl
   obtain ⟨aA, cA, rfl⟩ := hAl
   obtain ⟨_, _, _, gX⟩ := fld3 hgX
   obtain ⟨_, _, _, f1⟩ := fld3 hg1
   obtain ⟨_, _, _, f2⟩ := fld3 hg2
   subst hHX
   cases hp : (growV k xs bs).2 with
   | true =>
    have hge := grow_inf hG hb hp
    rw [hp] at h31
    have hne : ((growV k xs bs).1 == -1) = false := by simp; omega
    exact f10_F_35 all3 gX hck rfl hk rfl gX h13 rfl p1 f1 h18 rfl q1 f2 h30 f2 h31 f2 w1 f15_F_0 f15_F_0 (hz rfl rfl) f15_F_0 (hz rfl rfl) f15_F_0 (hz rfl rfl) f15_F_0 (hz rfl rfl) rfl rfl rfl (by rw [hne]; rfl) (by omega) rfl rfl rfl
   | false =>
    have hz0 := grow_not hp
    rw [hp, hz0] at h31
    exact f10_F_47 all3 gX hck rfl hk rfl gX h13 rfl p1 f1 h18 rfl q1 f2 h30 f2 h31 f2 w1 f15_F_0 f15_F_0 (hz rfl rfl) f15_F_0 (hz rfl rfl) f15_F_0 (hz rfl rfl) f15_F_0 (hz rfl rfl) rfl rfl rfl rfl (by omega) rfl rfl rfl rfl
 ·rw [decide_eq_false h0] at hck
  have hk := cKnows H.length HX
  obtain ⟨aN, cN, rfl⟩ := hA.n.len
  obtain ⟨aA, cA, rfl⟩ := hA.a.len
  obtain ⟨_, _, _, gX⟩ := fld3 hgX
  subst hHX
  exact f10_F_49 all3 gX hck rfl hk
end Go.Proofs.Ythjkodbinkiifaa.Am23
