/- A part of the proof of a given statement: AmOps4, AmOps5, AmExecH. No condition. -/
import Derived.Test.YthjkodbinkiifaaPart4
import Derived.Laws.AppendOwn
namespace Go.Proofs.Ythjkodbinkiifaa.Am
open Go Go.RowKit
section
variable {P : Program} {w0 w : World} {μ : PMap} {H H' : AHeap}

/-- Nothing is appended. -/
theorem run_append_zero {t ty e : TypeId} (hu : P.underlying t = some (.slice e)) {s : Nat} (hs : tsize P e = some s) (b a : Option Addr) (n c c' : Nat) (hnc : n ≤ c) :
  (Builtin.append_ #[t, t] ty #[.slice b n c, .slice a 0 c']).run P w = .ok (.slice b n c) w := by
 have hf : (Builtin.firstCells s 0 (.slice a 0 c')).run P w = .ok #[] w := by
  cases a with
  | none => simp [Builtin.firstCells]
  | some a => simp [Builtin.firstCells, loadCells, loadCellsFrom]
 cases b with
 | none => simp [Builtin.append_, run_underlying hu, run_sizeOf hs, Builtin.lenOf, hnc, hf]
 | some b => simp [Builtin.append_, run_underlying hu, run_sizeOf hs, Builtin.lenOf, hnc, hf, storeCells]

theorem srcCells_sound (hS : Sim P w0 μ H w) {s : Nat} {t : TypeId} {y y' : Value} {m : Nat} {cs : List Value} (h : srcCells P s t y H = some (m, cs)) (hy : VRel μ y y') :
  ∃ a' c', y' = .slice a' m c' ∧ cs.length = m * s ∧ ∃ cs', LRel μ cs cs' ∧ (∀ b, a' = some b → ∀ j v, cs'[j]? = some v → w.cell? (b.add j) = some v) ∧ (a' = none → m = 0) := by
 unfold srcCells at h
 split at h
 ·obtain ⟨cs2, hcs, h2⟩ := map_some' h
  simp only [Prod.mk.injEq] at h2
  obtain ⟨rfl, rfl⟩ := h2
  obtain ⟨a0, n0, c0, a', c', e0, rfl, hl, cs', hr, hcell, hnil⟩ := cellsAt_sound hS hcs hy
  cases e0
  exact ⟨a', c', rfl, hl, cs', hr, fun b e => (hcell b e).2, hnil⟩
 ·cases h

theorem newRow_size (cs' : List Value) (z : Value) (m s k : Nat) (hl : cs'.length = m * s) (hz : z.cells.size = s) (hmk : m ≤ k) : k * s ≤ (cs'.toArray ++ Builtin.zeroCells z.cells (k - m)).size := by
 have : k * s = m * s + (k - m) * s := by rw [← Nat.add_mul]; congr 1; omega
 simp only [Array.size_append, List.size_toArray, size_zeroCells, hl, hz]
 omega

/-- A new row of all that is there and all that is appended. -/
theorem grown_row (hS : Sim P w0 μ H w) {e : TypeId} {s : Nat} (hs : tsize P e = some s) {cs cs' : List Value} (hr : LRel μ cs cs') (m k : Nat) (z : Value) (hl : cs.length = m * s) (hz : z.cells.size = s) (hmk : m ≤ k) :
  Sim P w0 (ext1 μ H.length cs.length ⟨w.heap.size, 0, k, false⟩) (newObj H cs e) (w.drew.alloc (.cells (cs'.toArray ++ Builtin.zeroCells z.cells (k - m)) e)) := by
 have hd : Sim P w0 μ H w.drew := hS.same rfl rfl rfl rfl
 refine hd.newCells cs e .row _ k false rfl (fun i x hx => ?_) (fun s' hs' => ?_)
 ·obtain ⟨y, hy, hv⟩ := hr.get hx
  refine ⟨y, ?_, hv⟩
  rw [Array.getElem?_append_left (by simpa using (List.getElem?_eq_some_iff.1 hy).1)]
  simpa using hy
 ·rw [hs] at hs'; cases hs'
  exact newRow_size cs' z m s k (by rw [← hr.1]; exact hl) hz hmk

theorem take_add_drop {α : Type} (l m : List α) (n : Nat) (hn : n ≤ l.length) (i : Nat) (hi : i < n) : (l.take n ++ m)[i]? = l[i]? := by
 rw [List.getElem?_append_left (by simp; omega), List.getElem?_take, if_pos hi]

theorem aappend_sound (hS : Sim P w0 μ H w) {prot : Nat} {room : Bool} {t t' ty : TypeId} {x x' y y' v : Value} (h : aappend P prot room t t' x y H = some (v, H')) (hx : VRel μ x x') (hy : VRel μ y y') :
  Does P w0 μ w v H' (Builtin.append_ #[t, t'] ty #[x', y']) := by
 unfold aappend at h
 obtain ⟨e, he, q1⟩ := bind_some' h
 obtain ⟨s, hs, q2⟩ := bind_some' q1
 obtain ⟨b, hb, q3⟩ := bind_some' q2
 obtain ⟨z, hz, q4⟩ := bind_some' q3
 clear h q1 q2 q3
 have hu := tslice_some he
 split at q4
 case isFalse => cases q4
 rename_i hc0
 obtain ⟨rfl, hs0, hb0, hzl⟩ := hc0
 obtain ⟨⟨m, cs⟩, hsrc, q5⟩ := bind_some' q4
 clear q4
 simp only at q5
 split at q5
 case isFalse => cases q5
 rename_i hc1
 obtain ⟨hcl, hcc⟩ := hc1
 obtain ⟨i, hi, his⟩ := tsize_some hs
 obtain ⟨i2, hi2, hib⟩ := tbytes_some hb
 rw [hi] at hi2; cases hi2
 obtain ⟨i3, hi3, hiz⟩ := tzero_some hz
 rw [hi] at hi3; cases hi3
 have hzs : z.cells.size = s := by simpa [cellsOf] using hzl
 obtain ⟨a', c', rfl, _, cs', hr, hcell, hnil⟩ := srcCells_sound hS hsrc hy
 have hl' : cs'.length = m * i.size := by rw [his, ← hr.1]; exact hcl
 have fromEmpty : ∀ (x' : Value), 0 < m → m * b ≤ 140737488355328 → (x' = .slice none 0 0 ∨ ∃ g, x' = .slice (some g) 0 0) →
   Does P w0 μ w (sliceTo H (m * s) m) (newObj H cs e) (Builtin.append_ #[t, t] ty #[x', .slice a' m c']) := by
  intro x' hm0 hmb hx'
  have hmle : m ≤ m * b := Nat.le_mul_of_pos_right _ hb0
  obtain ⟨ad, rfl⟩ : ∃ ad, a' = some ad := by
   cases a' with
   | none => have := hnil rfl; omega
   | some ad => exact ⟨ad, rfl⟩
  have key : ∃ k, m ≤ k ∧ (Builtin.append_ #[t, t] ty #[x', .slice (some ad) m c']).run P w = .ok (.slice (some ⟨w.heap.size, 0, none⟩) m k) (w.drew.alloc (.cells (cs'.toArray ++ Builtin.zeroCells z.cells (k - m)) e)) := by
   rcases hx' with rfl | ⟨g, rfl⟩
   ·exact ⟨grownCap w m 0 e, grownCap_ge w m 0 e, run_append_nil w t ty e i z hu hi hiz ad m c' cs' hl' (hcell ad rfl) hm0 (by omega) (by rw [hib]; omega)⟩
   ·have := run_append_grow (P := P) w t ty e i z hu hi hiz g 0 0 [] (by simp) (by simp) ad m c' cs' hl' (hcell ad rfl) (by omega) (by omega) (growslice_fits (by omega) (by rw [hib, Nat.zero_add]; exact hmb))
    refine ⟨grownCap w m 0 e, grownCap_ge w m 0 e, ?_⟩
    simpa using this
  obtain ⟨k, hk, hrun⟩ := key
  refine ⟨_, _, _, hrun, ext1_sub (hS.fresh _), ?_, grown_row hS hs hr m k z hcl hzs hk⟩
  have := ext1_at μ H.length cs.length ⟨w.heap.size, 0, k, false⟩
  rw [hcl] at this ⊢
  exact .slice _ 0 _ _ _ _ _ this hk fun _ _ => Nat.le_refl _
 split at q5
 ·-- nil
  rw [hx.plain_inv rfl]
  split at q5
  ·rename_i hm0
   subst hm0
   cases q5
   exact ⟨μ, _, w, run_append_zero hu hs none a' 0 0 c' (Nat.le_refl _), Sub.refl μ, .base _ rfl, hS⟩
  ·rename_i hm0
   split at q5
   ·rename_i hmb
    cases q5
    exact fromEmpty _ (by omega) hmb (.inl rfl)
   ·cases q5
 ·-- the empty literal
  obtain ⟨g, rfl⟩ : ∃ g, x' = .slice (some g) 0 0 := by
   cases hx with
   | base v hp => simp [plain0] at hp
   | empty g => exact ⟨g, rfl⟩
  split at q5
  ·rename_i hm0
   subst hm0
   cases q5
   exact ⟨μ, _, w, run_append_zero hu hs _ a' 0 0 c' (Nat.le_refl _), Sub.refl μ, .empty g, hS⟩
  ·rename_i hm0
   split at q5
   ·rename_i hmb
    cases q5
    exact fromEmpty _ (by omega) hmb (.inr ⟨g, rfl⟩)
   ·cases q5
 ·rename_i id off L n c
  obtain ⟨p, cc, hp, hcc2, hcap, rfl⟩ := hx.slice_inv
  split at q5
  ·rename_i hm0
   subst hm0
   split at q5
   ·rename_i hnc
    cases q5
    exact ⟨μ, _, w, run_append_zero hu hs _ a' n cc c' (by omega), Sub.refl μ, .slice id off L n c cc p hp hcc2 hcap, hS⟩
   ·cases q5
  ·rename_i hm0
   obtain ⟨ad, rfl⟩ : ∃ ad, a' = some ad := by
    cases a' with
    | none => have := hnil rfl; omega
    | some ad => exact ⟨ad, rfl⟩
   have hfirst := run_firstCells_some (P := P) w s m ad m c' cs' (by rw [← his]; exact hl') (hcell ad rfl)
   split at q5
   ·rename_i hroom
    split at q5
    ·cases q5
    obtain ⟨H2, hset, q6⟩ := map_some' q5
    simp only [Prod.mk.injEq] at q6
    obtain ⟨rfl, rfl⟩ := q6
    obtain ⟨w', hst, hS'⟩ := setCells_sound hS hset hp hr
    refine ⟨μ, .slice (some (p.at_ off)) (n + m) cc, w', ?_, Sub.refl μ, .slice id off L _ c cc p hp hcc2 hcap, hS'⟩
    have hadd : (p.at_ off).add (n * s) = p.at_ (off + n * s) := by simp [Place.at_, Addr.add_lit, Nat.add_assoc]
    have hle : n + m ≤ cc := by omega
    simp [Builtin.append_, run_underlying hu, run_sizeOf hs, Builtin.lenOf, hle, hfirst, hadd, hst]
   ·rename_i hroom
    split at q5
    ·rename_i old e' wr md hh
     split at q5
     ·rename_i hc
      obtain ⟨c1, c2, c3, c4, c5, c6, c7⟩ := hc
      subst c3; subst c4; subst c5
      cases q5
      obtain ⟨hwr, _, hk⟩ := hS.ok id _ hh
      obtain ⟨hrd, hrw⟩ := hk old.length p hwr (Nat.le_refl _) hp
      have hmd : md.rw = true := by cases md <;> simp [OMode.isRow] at c1 <;> rfl
      obtain ⟨harr, hmo, hbase, c, hcb, hcapb⟩ := hrw hmd
      have harr' : p.arr = false := by rw [harr, c1]; rfl
      have hcc3 := hcap rfl harr'
      have hcsz := hcapb s hs
      have hat : p.at_ 0 = ⟨p.b, 0, none⟩ := by simp [Place.at_, hmo]
      have hblt : p.b < w.heap.size := (hS.dom id _ p hp).2
      have hnm : n + m ≤ (n + m) * b := Nat.le_mul_of_pos_right _ hb0
      have hlen2 : (old ++ cs).length = (n + m) * s := by rw [List.length_append, hcl, ← c6, Nat.add_mul]
      have hfresh : μ id ((n + m) * s) = none := by
       cases hq : μ id ((n + m) * s) with
       | none => rfl
       | some q =>
        have h1 := hS.ver id _ q old e' wr md hq hh
        have h2 : m * s > 0 := Nat.mul_pos (by omega) hs0
        rw [Nat.add_mul] at h1
        omega
      have hcsz0 : n * s ≤ c.size := by
       rcases Nat.eq_zero_or_pos (n * s) with h0 | h0
       ·omega
       ·obtain ⟨v', hv', _⟩ := hrd (old.length - 1) (old[old.length - 1]'(by omega)) (by omega) (List.getElem?_eq_getElem (by omega))
        unfold World.cell? at hv'
        simp only [Place.at_] at hv'
        rw [hcb] at hv'
        simp [hmo] at hv'
        have := (Array.getElem?_eq_some_iff.1 hv').1
        omega
      have hns : cs'.length = m * s := by rw [← hr.1]; exact hcl
      by_cases hfit : n + m ≤ cc
      ·-- in place
       have hrun := run_append_room (P := P) w t ty e' i hu hi p.b n cc c hcb ad m c' cs' hl' (hcell ad rfl) (hr.oneCell hcc) hfit (by
        rw [his, hns, ← Nat.add_mul]
        exact Nat.le_trans (Nat.mul_le_mul_right _ (Nat.le_trans hfit hcc3)) hcsz)
       rw [his] at hrun
       have hnew := setRow_heap w p.b c (c.toList.take (n * s) ++ cs' ++ c.toList.drop (n * s + cs'.length)).toArray e' _ hcb
       have hsz2 : (c.toList.take (n * s) ++ cs' ++ c.toList.drop (n * s + cs'.length)).toArray.size = c.size := by
        have : n * s + cs'.length ≤ c.size := by
         rw [hns, ← Nat.add_mul]
         exact Nat.le_trans (Nat.mul_le_mul_right _ (Nat.le_trans hfit hcc3)) hcsz
        simp only [List.size_toArray, List.length_append, List.length_take, List.length_drop, Array.length_toList]
        omega
       refine ⟨ext1 μ id ((n + m) * s) ⟨p.b, 0, p.cap, p.arr⟩, _, _, by rw [hat]; exact hrun, ext1_sub hfresh, ?_, ?_⟩
       ·exact .slice id 0 _ _ _ _ ⟨p.b, 0, p.cap, p.arr⟩ (ext1_at _ _ _ _) hfit fun _ _ => hcc3
       ·refine hS.update (o := .cells old e' wr md) (L0 := old.length) (m := p) hh hmd ⟨hwr, Nat.le_refl _⟩ hp (ext1_sub hfresh) (fun i K hne => ext1_ne fun x => hne x.1) (fun b' _ hb' => setRow_other w p.b b' _ hb') hbase
         (by rw [setRow_size]; exact Nat.le_refl _) rfl rfl rfl ?_ ?_ ?_ ?_ (by intro h; cases h)
        ·refine ⟨by simp; omega, ⟨_, by rw [hlen2]; exact ext1_at _ _ _ _⟩, fun L' p' h1 h2 h3 => ?_⟩
         by_cases hL' : L' = (n + m) * s
         ·subst hL'
          rw [ext1_at] at h3; cases h3
          refine ⟨fun j xv hj hxv => ?_, fun _ => ⟨harr, rfl, hbase, _, hnew, fun s' hs' => by rw [hsz2]; exact hcapb s' hs'⟩⟩
          have hcellj : (w.setRow p.b (c.toList.take (n * s) ++ cs' ++ c.toList.drop (n * s + cs'.length)).toArray).cell? ((⟨p.b, 0, p.cap, p.arr⟩ : Place).at_ j) = (c.toList.take (n * s) ++ cs' ++ c.toList.drop (n * s + cs'.length))[j]? := by
           unfold World.cell?
           simp only [Place.at_]
           rw [hnew]
           simp
          rw [hcellj]
          by_cases hjo : j < n * s
          ·rw [List.getElem?_append_left (by omega)] at hxv
           obtain ⟨v', hv', hvr⟩ := hrd j xv (by omega) hxv
           refine ⟨v', ?_, hvr.mono (ext1_sub hfresh)⟩
           unfold World.cell? at hv'
           simp only [Place.at_] at hv'
           rw [hcb] at hv'
           rw [List.append_assoc, take_add_drop _ _ _ (by simpa using hcsz0) j hjo]
           simpa [hmo] using hv'
          ·rw [List.getElem?_append_right (by omega)] at hxv
           obtain ⟨v', hv', hvr⟩ := hr.get hxv
           refine ⟨v', ?_, hvr.mono (ext1_sub hfresh)⟩
           have htl : (c.toList.take (n * s)).length = n * s := by simp; omega
           rw [List.append_assoc, List.getElem?_append_right (by omega), List.getElem?_append_left (by rw [htl]; have := (List.getElem?_eq_some_iff.1 hv').1; omega), htl, c6]
           exact hv'
         ·rw [ext1_ne (fun x => hL' x.2)] at h3
          have hLo := hS.ver id L' p' old e' wr md h3 hh
          obtain ⟨hrd', hrw'⟩ := hk L' p' h1 hLo h3
          obtain ⟨g1, g2, g3, c2', g4, g5⟩ := hrw' hmd
          by_cases hpb : p'.b = p.b
          ·have hcc' : c2' = c := by rw [hpb, hcb] at g4; cases g4; rfl
           subst hcc'
           refine ⟨fun j xv hj hxv => ?_, fun _ => ⟨g1, g2, g3, _, by rw [hpb]; exact hnew, fun s' hs' => by rw [hsz2]; exact g5 s' hs'⟩⟩
           rw [List.getElem?_append_left (by omega)] at hxv
           obtain ⟨v', hv', hvr⟩ := hrd' j xv hj hxv
           refine ⟨v', ?_, hvr.mono (ext1_sub hfresh)⟩
           unfold World.cell? at hv' ⊢
           simp only [Place.at_] at hv' ⊢
           rw [hpb, hcb] at hv'
           rw [hpb, hnew]
           simp only [Option.isSome_none, Bool.false_eq_true, if_false, g2, Nat.zero_add] at hv' ⊢
           rw [List.append_assoc, List.getElem?_toArray, take_add_drop _ _ _ (by simpa using hcsz0) j (by omega)]
           simpa using hv'
          ·refine ⟨fun j xv hj hxv => ?_, fun _ => ⟨g1, g2, g3, c2', by rw [setRow_other w p.b p'.b _ hpb]; exact g4, g5⟩⟩
           rw [List.getElem?_append_left (by omega)] at hxv
           obtain ⟨v', hv', hvr⟩ := hrd' j xv hj hxv
           exact ⟨v', by rw [World.cell?_of_block (w := w) (a := p'.at_ j) (setRow_other w p.b p'.b _ hpb)]; exact hv', hvr.mono (ext1_sub hfresh)⟩
        ·intro K q hl hq
         by_cases hK : K = (n + m) * s
         ·subst hK
          rw [ext1_at] at hq; cases hq
          exact .inl ⟨old.length, p, ⟨hwr, Nat.le_refl _⟩, hp, rfl⟩
         ·rw [ext1_ne (fun x => hK x.2)] at hq
          exact .inl ⟨K, q, ⟨hl.1, hS.ver id K q old e' wr md hq hh⟩, hq, rfl⟩
        ·intro K q hq
         rw [setRow_size]
         by_cases hK : K = (n + m) * s
         ·subst hK
          rw [ext1_at] at hq; cases hq
          exact hblt
         ·rw [ext1_ne (fun x => hK x.2)] at hq
          exact (hS.dom id K q hq).2
        ·intro K q cs2 e2 wr2 md2 hq ho
         cases ho
         by_cases hK : K = (n + m) * s
         ·rw [hlen2]; omega
         ·rw [ext1_ne (fun x => hK x.2)] at hq
          have := hS.ver id K q old e' wr md hq hh
          simp; omega
      ·-- a new array
       have hget : getCells H id old.length 0 old.length = some old := by
        unfold getCells
        rw [hh]
        simp [hwr]
       obtain ⟨_, old', hro, hco⟩ := getCells_sound hS hget hp
       have hol : old'.length = n * i.size := by rw [his, c6, ← hro.1]
       rw [hat] at hco
       have hrun := run_append_grow (P := P) w t ty e' i z hu hi hiz ⟨p.b, 0, none⟩ n cc old' hol hco ad m c' cs' hl' (hcell ad rfl) (by omega) (by omega) (growslice_fits (by omega) (by rw [hib]; exact c7))
       have hk0 := grownCap_ge w (n + m) cc e'
       generalize grownCap w (n + m) cc e' = k at hrun hk0
       have hra : LRel μ (old ++ cs) (old' ++ cs') := hro.append hr
       have hnewsz := newRow_size (old' ++ cs') z (n + m) s k (by rw [← hra.1]; exact hlen2) hzs hk0
       have hsz1 : (w.drew.alloc (.cells (old'.toArray ++ cs'.toArray ++ Builtin.zeroCells z.cells (k - (n + m))) e')).heap.size = w.heap.size + 1 := by simp
       have hnew : (w.drew.alloc (.cells (old'.toArray ++ cs'.toArray ++ Builtin.zeroCells z.cells (k - (n + m))) e')).heap[w.heap.size]? = some (.cells (old'.toArray ++ cs'.toArray ++ Builtin.zeroCells z.cells (k - (n + m))) e' (0, 0)) := heap_alloc_new w.drew _
       have hkeep : ∀ b', b' < w.heap.size → (w.drew.alloc (.cells (old'.toArray ++ cs'.toArray ++ Builtin.zeroCells z.cells (k - (n + m))) e')).heap[b']? = w.heap[b']? := fun b' hb' => Below.heap_alloc w.drew _ b' hb'
       refine ⟨ext1 μ id ((n + m) * s) ⟨w.heap.size, 0, k, false⟩, _, _, by rw [hat]; exact hrun, ext1_sub hfresh, ?_, ?_⟩
       ·exact .slice id 0 _ _ _ _ ⟨w.heap.size, 0, k, false⟩ (ext1_at _ _ _ _) hk0 fun _ _ => Nat.le_refl _
       ·refine hS.update (o := .cells old e' wr md) (L0 := old.length) (m := p) hh hmd ⟨hwr, Nat.le_refl _⟩ hp (ext1_sub hfresh) (fun i K hne => ext1_ne fun x => hne x.1) (fun b' hb' _ => hkeep b' hb') hbase
         (by rw [hsz1]; omega) rfl rfl rfl ?_ ?_ ?_ ?_ (by intro h; cases h)
        ·refine ⟨by simp; omega, ⟨_, by rw [hlen2]; exact ext1_at _ _ _ _⟩, fun L' p' h1 h2 h3 => ?_⟩
         by_cases hL' : L' = (n + m) * s
         ·subst hL'
          rw [ext1_at] at h3; cases h3
          refine ⟨fun j xv hj hxv => ?_, fun _ => ⟨by rw [c1]; rfl, rfl, hS.below.size, _, hnew, fun s' hs' => ?_⟩⟩
          ·obtain ⟨v', hv', hvr⟩ := hra.get hxv
           refine ⟨v', ?_, hvr.mono (ext1_sub hfresh)⟩
           unfold World.cell?
           simp only [Place.at_]
           rw [hnew]
           have hjl : j < (old' ++ cs').length := (List.getElem?_eq_some_iff.1 hv').1
           simp only [Option.isSome_none, Bool.false_eq_true, if_false, Nat.zero_add]
           rw [Array.getElem?_append_left (by simpa using hjl)]
           simpa using hv'
          ·rw [hs] at hs'; cases hs'
           simpa using hnewsz
         ·rw [ext1_ne (fun x => hL' x.2)] at h3
          have hLo := hS.ver id L' p' old e' wr md h3 hh
          obtain ⟨hrd', hrw'⟩ := hk L' p' h1 hLo h3
          obtain ⟨g1, g2, g3, c2', g4, g5⟩ := hrw' hmd
          have hpk := hkeep p'.b (hS.dom id L' p' h3).2
          refine ⟨fun j xv hj hxv => ?_, fun _ => ⟨g1, g2, g3, c2', by rw [hpk]; exact g4, g5⟩⟩
          rw [List.getElem?_append_left (by omega)] at hxv
          obtain ⟨v', hv', hvr⟩ := hrd' j xv hj hxv
          exact ⟨v', by rw [World.cell?_of_block (w := w) (a := p'.at_ j) hpk]; exact hv', hvr.mono (ext1_sub hfresh)⟩
        ·intro K q hl hq
         by_cases hK : K = (n + m) * s
         ·subst hK
          rw [ext1_at] at hq; cases hq
          exact .inr (Nat.le_refl _)
         ·rw [ext1_ne (fun x => hK x.2)] at hq
          exact .inl ⟨K, q, ⟨hl.1, hS.ver id K q old e' wr md hq hh⟩, hq, rfl⟩
        ·intro K q hq
         rw [hsz1]
         by_cases hK : K = (n + m) * s
         ·subst hK
          rw [ext1_at] at hq; cases hq
          exact Nat.lt_succ_self _
         ·rw [ext1_ne (fun x => hK x.2)] at hq
          have := (hS.dom id K q hq).2
          omega
        ·intro K q cs2 e2 wr2 md2 hq ho
         cases ho
         by_cases hK : K = (n + m) * s
         ·rw [hlen2]; omega
         ·rw [ext1_ne (fun x => hK x.2)] at hq
          have := hS.ver id K q old e' wr md hq hh
          simp; omega
     ·cases q5
    ·cases q5
 ·cases q5

/-- An append to nothing, of which the new row goes to a place of its own. -/
theorem aappend_hole (hS : Sim P w0 μ H w) {prot : Nat} {room : Bool} {t t' ty : TypeId} {x x' y y' v : Value} {H1 : AHeap} (h : aappend P prot room t t' x y H = some (v, H1)) (hb : x = .slice none 0 0 ∨ x = .slice (some ⟨0, 0, none⟩) 0 0) (hx : VRel μ x x') (hy : VRel μ y y') :
  (H1 = H ∧ Does P w0 μ w v H (Builtin.append_ #[t, t'] ty #[x', y'])) ∨
  ∃ obj, ∃ mk : Nat → Value, H1 = H ++ [obj] ∧ v = mk H.length ∧ (∀ a b, renTop a b (mk a) = mk b) ∧ ∀ hid, (∀ K, μ hid K = none) → hid < H.length → Does P w0 μ w (mk hid) (H.set hid obj) (Builtin.append_ #[t, t'] ty #[x', y']) := by
 have hall := aappend_sound (ty := ty) hS h hx hy
 unfold aappend at h
 obtain ⟨e, he, q1⟩ := bind_some' h
 obtain ⟨s, hs, q2⟩ := bind_some' q1
 obtain ⟨b, hb2, q3⟩ := bind_some' q2
 obtain ⟨z, hz, q4⟩ := bind_some' q3
 clear h q1 q2 q3
 have hu := tslice_some he
 split at q4
 case isFalse => cases q4
 rename_i hc0
 obtain ⟨rfl, hs0, hb0, hzl⟩ := hc0
 obtain ⟨⟨m, cs⟩, hsrc, q5⟩ := bind_some' q4
 clear q4
 simp only at q5
 split at q5
 case isFalse => cases q5
 rename_i hc1
 obtain ⟨hcl, hcc⟩ := hc1
 obtain ⟨i, hi, his⟩ := tsize_some hs
 obtain ⟨i2, hi2, hib⟩ := tbytes_some hb2
 rw [hi] at hi2; cases hi2
 obtain ⟨i3, hi3, hiz⟩ := tzero_some hz
 rw [hi] at hi3; cases hi3
 have hzs : z.cells.size = s := by simpa [cellsOf] using hzl
 obtain ⟨a', c', rfl, _, cs', hr, hcell, hnil⟩ := srcCells_sound hS hsrc hy
 have hl' : cs'.length = m * i.size := by rw [his, ← hr.1]; exact hcl
 have fromEmpty : ∀ (x' : Value), 0 < m → m * b ≤ 140737488355328 → (x' = .slice none 0 0 ∨ ∃ g, x' = .slice (some g) 0 0) →
   ∀ hid, (∀ K, μ hid K = none) → hid < H.length → Does P w0 μ w (.slice (some ⟨hid, 0, some (m * s)⟩) m m) (H.set hid (.cells cs e cs.length .row)) (Builtin.append_ #[t, t] ty #[x', .slice a' m c']) := by
  intro x' hm0 hmb hx' hid hfresh hlt
  have hmle : m ≤ m * b := Nat.le_mul_of_pos_right _ hb0
  obtain ⟨ad, rfl⟩ : ∃ ad, a' = some ad := by
   cases a' with
   | none => have := hnil rfl; omega
   | some ad => exact ⟨ad, rfl⟩
  have key : ∃ k, m ≤ k ∧ (Builtin.append_ #[t, t] ty #[x', .slice (some ad) m c']).run P w = .ok (.slice (some ⟨w.heap.size, 0, none⟩) m k) (w.drew.alloc (.cells (cs'.toArray ++ Builtin.zeroCells z.cells (k - m)) e)) := by
   rcases hx' with rfl | ⟨g, rfl⟩
   ·exact ⟨grownCap w m 0 e, grownCap_ge w m 0 e, run_append_nil w t ty e i z hu hi hiz ad m c' cs' hl' (hcell ad rfl) hm0 (by omega) (by rw [hib]; omega)⟩
   ·have := run_append_grow (P := P) w t ty e i z hu hi hiz g 0 0 [] (by simp) (by simp) ad m c' cs' hl' (hcell ad rfl) (by omega) (by omega) (growslice_fits (by omega) (by rw [hib, Nat.zero_add]; exact hmb))
    refine ⟨grownCap w m 0 e, grownCap_ge w m 0 e, ?_⟩
    simpa using this
  obtain ⟨k, hk, hrun⟩ := key
  have hd : Sim P w0 μ H w.drew := hS.same rfl rfl rfl rfl
  have hat := ext1_at μ hid cs.length ⟨w.heap.size, 0, k, false⟩
  refine ⟨_, _, _, hrun, ext1_sub (hfresh _), ?_, hd.place hid (.cells cs e cs.length .row) _ cs.length ⟨w.heap.size, 0, k, false⟩ rfl hfresh (List.getElem?_set_self hlt) (fun id hne => List.getElem?_set_ne (fun e => hne e.symm)) (by simp) (by intro h; cases h) cells_lv cells_ver ?_⟩
  ·rw [hcl] at hat ⊢
   exact .slice _ 0 _ _ _ _ _ hat hk fun _ _ => Nat.le_refl _
  ·refine cellsOK hd cs e .row _ k false rfl (fun i x hx => ?_) (fun s' hs' => ?_) (ext1_sub (hfresh _)) hid hat
   ·obtain ⟨y, hy, hv⟩ := hr.get hx
    refine ⟨y, ?_, hv⟩
    rw [Array.getElem?_append_left (by simpa using (List.getElem?_eq_some_iff.1 hy).1)]
    simpa using hy
   ·rw [hs] at hs'; cases hs'
    exact newRow_size cs' z m s k (by rw [← hr.1]; exact hcl) hzs hk
 rcases hb with rfl | rfl
 ·simp only at q5
  rw [hx.plain_inv rfl] at hall ⊢
  split at q5
  ·cases q5
   exact .inl ⟨rfl, hall⟩
  ·split at q5
   ·rename_i hm0 hmb
    cases q5
    exact .inr ⟨_, fun i => .slice (some ⟨i, 0, some (m * s)⟩) m m, rfl, rfl, fun a b => by simp [renTop], fun hid h1 h2 => fromEmpty _ (by omega) hmb (.inl rfl) hid h1 h2⟩
   ·cases q5
 ·simp only at q5
  obtain ⟨g, rfl⟩ : ∃ g, x' = .slice (some g) 0 0 := by
   cases hx with
   | base v hp => simp [plain0] at hp
   | empty g => exact ⟨g, rfl⟩
  split at q5
  ·cases q5
   exact .inl ⟨rfl, hall⟩
  ·split at q5
   ·rename_i hm0 hmb
    cases q5
    exact .inr ⟨_, fun i => .slice (some ⟨i, 0, some (m * s)⟩) m m, rfl, rfl, fun a b => by simp [renTop], fun hid h1 h2 => fromEmpty _ (by omega) hmb (.inr ⟨g, rfl⟩) hid h1 h2⟩
   ·cases q5
end
end Go.Proofs.Ythjkodbinkiifaa.Am
namespace Go.Proofs.Ythjkodbinkiifaa.Am
open Go Go.RowKit
section
variable {P : Program} {w0 w : World} {μ : PMap} {H H' : AHeap}

theorem isEmpty_false {α : Type} (a : Array α) (h : a.size ≠ 0) : a.isEmpty = false := by simp [Array.isEmpty, h]

theorem acopy_sound (hS : Sim P w0 μ H w) {prot : Nat} {t t' ty : TypeId} {x x' y y' v : Value} (h : acopy P prot t t' x y H = some (v, H')) (hx : VRel μ x x') (hy : VRel μ y y') :
  Does P w0 μ w v H' (Builtin.copy_ #[t, t'] ty #[x', y']) := by
 unfold acopy at h
 obtain ⟨e, he, q1⟩ := bind_some' h
 obtain ⟨s, hs, q2⟩ := bind_some' q1
 obtain ⟨⟨m, cs⟩, hsrc, q3⟩ := bind_some' q2
 clear h q1 q2
 have hu := tslice_some he
 obtain ⟨a', c', rfl, hcl, cs', hr, hcell, hnil⟩ := srcCells_sound hS hsrc hy
 have hfirst : ∀ n, n ≤ m → (Builtin.firstCells s n (.slice a' m c')).run P w = .ok (cs'.take (n * s)).toArray w := by
  intro n hn
  cases a' with
  | none =>
   have := hnil rfl
   subst this
   have : n = 0 := by omega
   subst this
   simp [Builtin.firstCells]
  | some ad =>
   refine run_firstCells_some w s n ad m c' (cs'.take (n * s)) ?_ fun j v hv => hcell ad rfl j v ?_
   ·have := Nat.mul_le_mul_right s hn
    rw [List.length_take, ← hr.1, hcl]
    omega
   ·rw [List.getElem?_take] at hv
    split at hv
    ·exact hv
    ·cases hv
 simp only at q3
 split at q3
 ·cases q3
  rw [hx.plain_inv rfl]
  refine ⟨μ, _, w, ?_, Sub.refl μ, .base _ rfl, hS⟩
  have := hfirst 0 (Nat.zero_le _)
  simp [Builtin.copy_, run_underlying hu, run_sizeOf hs, Builtin.lenOf, goInt] at this ⊢
  simp [this]
 ·cases q3
  obtain ⟨b, c, rfl, _⟩ := hx.slice_any
  refine ⟨μ, _, w, ?_, Sub.refl μ, .base _ rfl, hS⟩
  have := hfirst 0 (Nat.zero_le _)
  cases b <;> simp [Builtin.copy_, run_underlying hu, run_sizeOf hs, Builtin.lenOf, goInt] at this ⊢ <;> simp [this, storeCells]
 ·rename_i id off L n c
  obtain ⟨p, cc, hp, _, _, rfl⟩ := hx.slice_inv
  split at q3
  ·rename_i hl
   obtain ⟨H2, hset, q4⟩ := map_some' q3
   simp only [Prod.mk.injEq] at q4
   obtain ⟨rfl, rfl⟩ := q4
   obtain ⟨w', hst, hS'⟩ := setCells_sound hS hset hp (hr.take (min m n * s))
   refine ⟨μ, _, w', ?_, Sub.refl μ, .base _ rfl, hS'⟩
   have hf := hfirst (min m n) (Nat.min_le_left _ _)
   have hmin : m.min n = min m n := rfl
   simp [Builtin.copy_, run_underlying hu, run_sizeOf hs, Builtin.lenOf, goInt, hmin, hf, hst]
  ·contradiction
 ·contradiction

/-! ### Maps -/
theorem apure_bind {α β : Type} (P : Program) (s : Sem α) (f : α → Sem β) : apure P (s >>= f) = (apure P s).bind fun a => apure P (f a) := by
 show apure P (Sem.bind s f) = _
 induction s with
 | pure a => rfl
 | program k ih => simp only [Sem.bind, apure]; exact ih P
 | mark m k ih => simp only [Sem.bind, apure]; exact ih
 | _ => rfl

def nowIdx (d : TypeDesc) (k : Value) : List Value → Nat → Option (Option Nat)
 | [], _ => some none
 | x :: xs, i =>
  match Instr.sameNow d k x with
  | some true => some (some i)
  | some false => nowIdx d k xs (i + 1)
  | none => none
def askIdx (P : Program) (kt : TypeId) (k : Value) : List Value → Nat → Option (Option Nat)
 | [], _ => some none
 | x :: xs, i => (apure P (Op.equal kt k x)).bind fun b => if b then some (some i) else askIdx P kt k xs (i + 1)
def valAt (es : List MapEntry) (i : Nat) (o : Option Nat) : Option (Nat × Value) := o.bind fun j => (es[j - i]?).map fun e => (j, e.val)

theorem nowIdx_ge {d : TypeDesc} {k : Value} : ∀ {l : List Value} {i j : Nat}, nowIdx d k l i = some (some j) → i ≤ j
 | [], i, j, h => by simp [nowIdx] at h
 | x :: xs, i, j, h => by
  simp only [nowIdx] at h
  split at h
  ·simp at h; omega
  ·have := nowIdx_ge h; omega
  ·cases h
theorem askIdx_ge {kt : TypeId} {k : Value} : ∀ {l : List Value} {i j : Nat}, askIdx P kt k l i = some (some j) → i ≤ j
 | [], i, j, h => by simp [askIdx] at h
 | x :: xs, i, j, h => by
  simp only [askIdx] at h
  obtain ⟨b, hb, h⟩ := bind_some' h
  cases b
  ·have := askIdx_ge (by simpa using h); omega
  ·simp at h; omega

theorem valAt_cons (e : MapEntry) (es : List MapEntry) (i : Nat) (o : Option Nat) (h : ∀ j, o = some j → i + 1 ≤ j) : valAt (e :: es) i o = valAt es (i + 1) o := by
 cases o with
 | none => rfl
 | some j =>
  have hj := h j rfl
  simp only [valAt, Option.bind_some]
  rw [show j - i = (j - (i + 1)) + 1 by omega, List.getElem?_cons_succ]

theorem findNow_eq (d : TypeDesc) (k : Value) : ∀ (es : List MapEntry) (i : Nat), Instr.findNow d k es i = (nowIdx d k (es.map (·.key)) i).map (valAt es i)
 | [], i => rfl
 | e :: es, i => by
  simp only [Instr.findNow, List.map_cons, nowIdx]
  cases hq : Instr.sameNow d k e.key with
  | none => rfl
  | some b =>
   cases b with
   | true => simp [valAt]
   | false =>
    simp only []
    rw [findNow_eq d k es (i + 1)]
    cases hn : nowIdx d k (es.map (·.key)) (i + 1) with
    | none => rfl
    | some o =>
     simp only [Option.map_some]
     rw [valAt_cons e es i o fun j hj => nowIdx_ge (by rw [hn, hj])]

theorem findAsking_eq (kt : TypeId) (k : Value) : ∀ (es : List MapEntry) (i : Nat), apure P (Instr.findAsking kt k es i) = (askIdx P kt k (es.map (·.key)) i).map (valAt es i)
 | [], i => rfl
 | e :: es, i => by
  simp only [Instr.findAsking, List.map_cons, askIdx, apure_bind]
  cases hq : apure P (Op.equal kt k e.key) with
  | none => rfl
  | some b =>
   simp only [Option.bind_some]
   cases b with
   | true => simp [valAt, apure, Pure.pure]
   | false =>
    simp only [Bool.false_eq_true, if_false]
    rw [findAsking_eq kt k es (i + 1)]
    cases hn : askIdx P kt k (es.map (·.key)) (i + 1) with
    | none => rfl
    | some o =>
     simp only [Option.map_some]
     rw [valAt_cons e es i o fun j hj => askIdx_ge (by rw [hn, hj])]

theorem findKey_keys {kt : TypeId} {k : Value} {es1 es2 : List MapEntry} (hk : es1.map (·.key) = es2.map (·.key)) {r1 : Option (Nat × Value)} (h : apure P (Instr.findKey kt k es1) = some r1) :
  ∃ r2, apure P (Instr.findKey kt k es2) = some r2 ∧ r2.map (·.1) = r1.map (·.1) ∧ ∀ i v, r2 = some (i, v) → ∃ e, es2[i]? = some e ∧ e.val = v := by
 have hlen : es1.length = es2.length := by have := congrArg List.length hk; simpa using this
 have vals : ∀ o : Option Nat, (valAt es2 0 o).map (·.1) = (valAt es1 0 o).map (·.1) ∧ ∀ i v, valAt es2 0 o = some (i, v) → ∃ e, es2[i]? = some e ∧ e.val = v := by
  intro o
  cases o with
  | none => exact ⟨rfl, fun i v h => by simp [valAt] at h⟩
  | some j =>
   simp only [valAt, Option.bind_some, Nat.sub_zero]
   refine ⟨?_, fun i v h => ?_⟩
   ·by_cases hj : j < es1.length
    ·simp [hj, show j < es2.length by omega]
    ·simp [List.getElem?_eq_none (show es1.length ≤ j by omega), List.getElem?_eq_none (show es2.length ≤ j by omega)]
   ·obtain ⟨e, he, h2⟩ := map_some' h
    simp only [Prod.mk.injEq] at h2
    obtain ⟨rfl, rfl⟩ := h2
    exact ⟨e, he, rfl⟩
 unfold Instr.findKey at h ⊢
 simp only [apure_bind] at h ⊢
 obtain ⟨d, hd, h⟩ := bind_some' h
 rw [hd]
 simp only [Option.bind_some, findNow_eq] at h ⊢
 rw [← hk]
 cases hn : nowIdx d k (es1.map (·.key)) 0 with
 | some o =>
  rw [hn] at h
  simp only [Option.map_some] at h ⊢
  have : valAt es1 0 o = r1 := by simpa [apure, Pure.pure] using h
  subst this
  exact ⟨valAt es2 0 o, rfl, vals o⟩
 | none =>
  rw [hn] at h
  simp only [Option.map_none, findAsking_eq] at h ⊢
  rw [← hk]
  obtain ⟨o, ho, rfl⟩ := map_some' h
  rw [ho]
  exact ⟨valAt es2 0 o, rfl, vals o⟩

theorem afind_sound {kt : TypeId} {k : Value} {es : List (Value × Value)} {es' : Array MapEntry} {o : Option Nat} (h : afind P kt k es = some o) (hsz : es'.size = es.length)
  (hk : ∀ (i : Nat) x y, es[i]? = some x → es'[i]? = some y → y.key = x.1) :
  ∃ r, (∀ w, (Instr.findKey kt k es'.toList).run P w = .ok r w) ∧ r.map (·.1) = o ∧ ∀ i v, r = some (i, v) → ∃ e, es'[i]? = some e ∧ e.val = v := by
 unfold afind at h
 obtain ⟨r1, h1, rfl⟩ := map_some' h
 have hkeys : (keysOf es).map (·.key) = es'.toList.map (·.key) := by
  apply List.ext_getElem?
  intro i
  by_cases hi : i < es.length
  ·have hi' : i < es'.size := by omega
   have := hk i es[i] es'[i] (List.getElem?_eq_getElem hi) (Array.getElem?_eq_getElem hi')
   simp [keysOf, hi, hi', this]
  ·simp [keysOf, List.getElem?_eq_none (show es.length ≤ i by omega), Array.getElem?_eq_none (show es'.size ≤ i by omega)]
 obtain ⟨r2, h2, h3, h4⟩ := findKey_keys hkeys h1
 exact ⟨r2, fun w => apure_run P _ h2 w, h3, fun i v hv => by simpa using h4 i v hv⟩

theorem tmap_some {t k e : TypeId} (h : tmap P t = some (k, e)) : P.underlying t = some (.map k e) := by
 unfold tmap at h
 split at h
 ·simp at h; obtain ⟨rfl, rfl⟩ := h; assumption
 ·cases h

theorem alookup_sound (hS : Sim P w0 μ H w) {t : TypeId} {x x' k k' v : Value} {ok : Bool} (h : alookup P t x k ok H = some v) (hx : VRel μ x x') (hk : VRel μ k k') : Quiet P μ w v (Instr.lookup t x' k' ok) := by
 unfold alookup at h
 obtain ⟨⟨kt, e⟩, ht, q1⟩ := bind_some' h
 obtain ⟨es, hes, q2⟩ := bind_some' q1
 clear h q1
 have hu := tmap_some ht
 split at q2
 case isFalse => cases q2
 rename_i hkp
 rw [hk.plain1_inv hkp]
 obtain ⟨u, hck, q3⟩ := bind_some' q2
 obtain ⟨i, hi, q4⟩ := bind_some' q3
 obtain ⟨z, hz, q5⟩ := bind_some' q4
 clear q2 q3 q4
 simp only at hck hi hz q5
 split at q5
 case isFalse => cases q5
 rename_i hzp
 have fin : ∀ (es' : Array MapEntry), es'.size = es.length →
   (∀ (i : Nat) x y, es[i]? = some x → es'[i]? = some y → plain1 x.1 = true ∧ y.key = x.1 ∧ VRel μ x.2 y.val) →
   (Instr.checkKey es'.isEmpty 10000 kt k).run P w = .ok () w ∧ ∃ r v', (Instr.findKey kt k es'.toList).run P w = .ok r w ∧
    v' = (match r with | some (_, v) => if ok then .tuple #[v, .bool true] else v | none => if ok then .tuple #[z, .bool false] else z) ∧ VRel μ v v' := by
  intro es' hsz hrel
  obtain ⟨r, hr1, hr2, hr3⟩ := afind_sound hi hsz fun i x y hx hy => (hrel i x y hx hy).2.1
  have hemp : es'.isEmpty = es.isEmpty := by
   cases es with
   | nil => simp at hsz; subst hsz; rfl
   | cons a l =>
    have h0 : es'.size ≠ 0 := by simp at hsz; omega
    simp only [List.isEmpty_cons]
    exact isEmpty_false _ h0
  refine ⟨by rw [hemp]; exact apure_run P _ hck w, r, _, hr1 w, rfl, ?_⟩
  cases q5
  cases r with
  | none =>
   simp at hr2; subst hr2
   simp only [Option.bind_none, Option.getD_none, Option.isSome_none]
   split
   ·exact VRel.mk_tuple (LRel.cons (VRel.of_plain1 hzp) (LRel.cons (.base _ rfl) (LRel.nil μ)))
   ·exact VRel.of_plain1 hzp
  | some p =>
   obtain ⟨j, u⟩ := p
   simp at hr2; subst hr2
   obtain ⟨e', he', rfl⟩ := hr3 j u rfl
   have hj : j < es.length := by rw [← hsz]; exact (Array.getElem?_eq_some_iff.1 he').1
   have hx2 := (hrel j es[j] e' (List.getElem?_eq_getElem hj) he').2.2
   simp only [Option.bind_some, List.getElem?_eq_getElem hj, Option.map_some, Option.getD_some, Option.isSome_some]
   split
   ·exact VRel.mk_tuple (LRel.cons hx2 (LRel.cons (.base _ rfl) (LRel.nil μ)))
   ·exact hx2
 unfold amapOf at hes
 split at hes
 ·cases hes
  rw [hx.plain_inv rfl]
  obtain ⟨h1, r, v', h2, h3, h4⟩ := fin #[] rfl (fun i x y hx => by simp at hx)
  refine ⟨v', ?_, h4⟩
  subst h3
  simp only [Instr.lookup, Sem.run_bind, run_underlying hu, Result.andThen_ok, Sem.run_pure, h1, h2]
  cases r with
  | none => cases ok <;> simp [run_zeroValue hz]
  | some p => cases ok <;> simp
 ·rename_i id
  split at hes
  ·rename_i es0 hh
   cases hes
   obtain ⟨m, hm, rfl⟩ := hx.map_inv
   obtain ⟨m2, hm2, _, es', clock, hhp, hsz, hrel⟩ := hS.ok _ _ hh
   rw [hm] at hm2; cases hm2
   obtain ⟨h1, r, v', h2, h3, h4⟩ := fin es' hsz hrel
   refine ⟨v', ?_, h4⟩
   subst h3
   have hget : (getObj m.b).run P w = .ok (.map es' clock) w := by simp [getObj, Sem.run, hhp]
   simp only [Instr.lookup, Sem.run_bind, run_underlying hu, Result.andThen_ok, Sem.run_pure, hget, h1, h2]
   cases r with
   | none => cases ok <;> simp [run_zeroValue hz]
   | some p => cases ok <;> simp
  ·cases hes
 ·cases hes

theorem sameBits_keeps {old new : Value} (h : Instr.sameBits 10000 old new = true) : (Instr.keyThatStays old new).run P w = .ok new w := by
 simp [Instr.keyThatStays, h]

theorem mapObj_update (hS : Sim P w0 μ H w) {id : Nat} {es es2 : List (Value × Value)} {m : Place} {es' es2' : Array MapEntry} {clock clock2 : Nat} (hh : H[id]? = some (.map es)) (hm : μ id 0 = some m)
  (hb : w.heap[m.b]? = some (.map es' clock)) (hbase : w0.heap.size ≤ m.b) (hsz : es2'.size = es2.length)
  (hrel : ∀ (i : Nat) x y, es2[i]? = some x → es2'[i]? = some y → plain1 x.1 = true ∧ y.key = x.1 ∧ VRel μ x.2 y.val) :
  (setObj m.b (.map es2' clock2)).run P w = .ok () { w with heap := w.heap.setIfInBounds m.b (.map es2' clock2) } ∧
  Sim P w0 μ (H.set id (.map es2)) { w with heap := w.heap.setIfInBounds m.b (.map es2' clock2) } := by
 have hlt : m.b < w.heap.size := (hS.dom id 0 m hm).2
 refine ⟨by simp [setObj, Sem.run, hb], ?_⟩
 refine hS.update (o := .map es) (L0 := 0) (m := m) hh rfl rfl hm (Sub.refl μ) (fun _ _ _ => rfl) (fun b _ hne => by simp [Array.getElem?_setIfInBounds_ne (fun e => hne e.symm)]) hbase (by simp) rfl rfl rfl
  ⟨m, hm, hbase, es2', clock2, by simp [hlt], hsz, hrel⟩ (fun K p hK hp => ?_) (fun K p hp => by simpa using (hS.dom id K p hp).2) (fun K p cs e wr md _ ho => by cases ho) (by intro h; cases h)
 simp only [lives] at hK
 subst hK
 exact .inl ⟨0, m, rfl, hm, by rw [hm] at hp; cases hp; rfl⟩

theorem amapUpdate_sound (hS : Sim P w0 μ H w) {prot : Nat} {t : TypeId} {x x' k k' v v' : Value} (h : amapUpdate P prot t x k v H = some H') (hx : VRel μ x x') (hk : VRel μ k k') (hv : VRel μ v v') :
  Acts P w0 μ w H' (Instr.mapUpdate t x' k' v') := by
 unfold amapUpdate at h
 split at h
 case h_2 => cases h
 rename_i id
 split at h
 case h_2 => cases h
 rename_i es hh
 obtain ⟨⟨kt, e⟩, ht, q1⟩ := bind_some' h
 clear h
 have hu := tmap_some ht
 split at q1
 case isFalse => cases q1
 rename_i hc
 obtain ⟨hkp, _⟩ := hc
 rw [hk.plain1_inv hkp]
 obtain ⟨u, hck, q2⟩ := bind_some' q1
 obtain ⟨i, hi, q3⟩ := bind_some' q2
 clear q1 q2
 simp only at hck hi
 obtain ⟨m, hm, rfl⟩ := hx.map_inv
 obtain ⟨m2, hm2, hbase, es', clock, hhp, hsz, hrel⟩ := hS.ok _ _ hh
 rw [hm] at hm2; cases hm2
 obtain ⟨r, hr1, hr2, hr3⟩ := afind_sound hi hsz fun i x y hx hy => (hrel i x y hx hy).2.1
 have hget : (getObj m.b).run P w = .ok (.map es' clock) w := by simp [getObj, Sem.run, hhp]
 have hckr := apure_run P _ hck w
 cases r with
 | none =>
  simp at hr2; subst hr2
  cases q3
  obtain ⟨g1, g2⟩ := mapObj_update hS (es2 := es ++ [(k, v)]) (es2' := es'.push { key := k, val := v', born := clock }) (clock2 := clock + 1) hh hm hhp hbase (by simp [hsz]) (fun j a b ha hb => by
   by_cases hj : j < es.length
   ·rw [List.getElem?_append_left hj] at ha
    rw [Array.getElem?_push, if_neg (by omega)] at hb
    exact hrel j a b ha hb
   ·rw [List.getElem?_append_right (by omega)] at ha
    have hj0 : j - es.length = 0 := by
     have := (List.getElem?_eq_some_iff.1 ha).1
     simp at this; omega
    rw [hj0] at ha
    simp at ha; subst ha
    rw [Array.getElem?_push, if_pos (by omega)] at hb
    simp at hb; subst hb
    exact ⟨hkp, rfl, hv⟩)
  refine ⟨μ, _, ?_, Sub.refl μ, g2⟩
  simp only [Instr.mapUpdate, Sem.run_bind, run_underlying hu, Result.andThen_ok, hget, hckr, hr1 w, g1]
 | some p =>
  obtain ⟨j, u⟩ := p
  simp at hr2; subst hr2
  obtain ⟨e', he', rfl⟩ := hr3 j u rfl
  have hjs : j < es'.size := (Array.getElem?_eq_some_iff.1 he').1
  have hj : j < es.length := by omega
  dsimp only at q3
  rw [List.getElem?_eq_getElem hj] at q3
  dsimp only at q3
  split at q3
  case isFalse => cases q3
  rename_i hsame
  cases q3
  have hkey : e'.key = es[j].1 := (hrel j es[j] e' (List.getElem?_eq_getElem hj) he').2.1
  obtain ⟨g1, g2⟩ := mapObj_update hS (es2 := es.set j (k, v)) (es2' := es'.modify j fun e => { e with key := k, val := v' }) (clock2 := clock) hh hm hhp hbase (by simp [hsz]) (fun l a b ha hb => by
   rw [Array.getElem?_modify] at hb
   by_cases hl : l = j
   ·subst hl
    rw [List.getElem?_set_self hj] at ha
    simp at ha; subst ha
    rw [if_pos rfl, he'] at hb
    simp at hb; subst hb
    exact ⟨hkp, rfl, hv⟩
   ·rw [List.getElem?_set_ne (fun x => hl x.symm)] at ha
    rw [if_neg (fun x => hl x.symm)] at hb
    exact hrel l a b ha hb)
  refine ⟨μ, _, ?_, Sub.refl μ, g2⟩
  have hold : (((es'[j]?).map (·.key)).getD k) = es[j].1 := by rw [he']; exact hkey
  simp only [Instr.mapUpdate, Sem.run_bind, run_underlying hu, Result.andThen_ok, hget, hckr, hr1 w, hold, sameBits_keeps hsame, g1]

theorem amapDelete_sound (hS : Sim P w0 μ H w) {prot : Nat} {t ty : TypeId} {ts : List TypeId} {x x' k k' : Value} (h : amapDelete P prot t x k H = some H') (hx : VRel μ x x') (hk : VRel μ k k') :
  ∃ w', (Builtin.delete_ (t :: ts).toArray ty #[x', k']).run P w = .ok (.tuple #[]) w' ∧ Sim P w0 μ H' w' := by
 unfold amapDelete at h
 split at h
 case h_2 => cases h
 rename_i id
 split at h
 case h_2 => cases h
 rename_i es hh
 obtain ⟨⟨kt, e⟩, ht, q1⟩ := bind_some' h
 clear h
 have hu := tmap_some ht
 split at q1
 case isFalse => cases q1
 rename_i hc
 obtain ⟨hkp, _⟩ := hc
 rw [hk.plain1_inv hkp]
 obtain ⟨u, hck, q2⟩ := bind_some' q1
 obtain ⟨i, hi, q3⟩ := bind_some' q2
 clear q1 q2
 simp only at hck hi
 obtain ⟨m, hm, rfl⟩ := hx.map_inv
 obtain ⟨m2, hm2, hbase, es', clock, hhp, hsz, hrel⟩ := hS.ok _ _ hh
 rw [hm] at hm2; cases hm2
 obtain ⟨r, hr1, hr2, hr3⟩ := afind_sound hi hsz fun i x y hx hy => (hrel i x y hx hy).2.1
 have hget : (getObj m.b).run P w = .ok (.map es' clock) w := by simp [getObj, Sem.run, hhp]
 have hemp : es'.isEmpty = es.isEmpty := by
  cases es with
  | nil => simp at hsz; subst hsz; rfl
  | cons a l =>
   have h0 : es'.size ≠ 0 := by simp at hsz; omega
   simp only [List.isEmpty_cons]
   exact isEmpty_false _ h0
 have hckr := apure_run P _ hck w
 rw [← hemp] at hckr
 cases r with
 | none =>
  simp at hr2; subst hr2
  cases q3
  obtain ⟨g1, g2⟩ := mapObj_update hS (es2 := es) (es2' := es') (clock2 := clock) hh hm hhp hbase hsz hrel
  have hset : H.set id (.map es) = H := by
   apply List.ext_getElem?
   intro j
   by_cases hj : j = id
   ·subst hj; rw [List.getElem?_set_self (List.getElem?_eq_some_iff.1 hh).1, hh]
   ·rw [List.getElem?_set_ne (fun x => hj x.symm)]
  rw [hset] at g2
  refine ⟨_, ?_, g2⟩
  simp [Builtin.delete_, run_underlying hu, hget, hckr, hr1 w, g1]
 | some p =>
  obtain ⟨j, u⟩ := p
  simp at hr2; subst hr2
  obtain ⟨e', he', rfl⟩ := hr3 j u rfl
  have hjs : j < es'.size := (Array.getElem?_eq_some_iff.1 he').1
  have hera : (es'.eraseIdxIfInBounds j).toList = es'.toList.eraseIdx j := by simp [Array.eraseIdxIfInBounds, hjs, Array.toList_eraseIdx]
  cases q3
  obtain ⟨g1, g2⟩ := mapObj_update hS (es2 := es.eraseIdx j) (es2' := es'.eraseIdxIfInBounds j) (clock2 := clock) hh hm hhp hbase (by rw [← Array.length_toList, hera, List.length_eraseIdx, List.length_eraseIdx, Array.length_toList, hsz]) (fun l a b ha hb => by
   have hb' : (es'.toList.eraseIdx j)[l]? = some b := by
    rw [← hera, Array.getElem?_toList]
    exact hb
   rw [List.getElem?_eraseIdx] at ha hb'
   split at ha
   ·rename_i hl; rw [if_pos hl] at hb'; exact hrel _ a b ha (by simpa using hb')
   ·rename_i hl; rw [if_neg hl] at hb'; exact hrel _ a b ha (by simpa using hb'))
  refine ⟨_, ?_, g2⟩
  simp [Builtin.delete_, run_underlying hu, hget, hckr, hr1 w, g1]

theorem arange_sound (hS : Sim P w0 μ H w) {t : TypeId} {x x' v : Value} (h : arange P t x H = some (v, H')) (hx : VRel μ x x') : Does P w0 μ w v H' (Instr.range t x') := by
 unfold arange at h
 split at h
 ·rename_i s hu
  cases h
  rw [hx.string_inv]
  refine ⟨ext1 μ H.length 0 ⟨w.heap.size, 0, 0, false⟩, .pointer (some ⟨w.heap.size, 0, none⟩), w.alloc (.stringIter s 0), ?_, ext1_sub (hS.fresh _), ?_, ?_⟩
  ·simp only [Instr.range, Sem.run_bind, run_underlying hu, Sem.run_pure, Result.andThen_ok, run_newObj]
   rfl
  ·exact .ptr _ 0 0 _ (ext1_at _ _ _ _)
  ·refine hS.new _ _ _ _ rfl (by intro h; cases h) (fun K hK => hK) (fun cs e wr md ho => by cases ho) ⟨_, ext1_at _ _ _ _, rfl, hS.below.size, heap_alloc_new w _⟩
 ·cases h

theorem anext_sound (hS : Sim P w0 μ H w) {prot : Nat} {ty : TypeId} {x x' v : Value} (h : anext prot x H = some (v, H')) (hx : VRel μ x x') : Does P w0 μ w v H' (Instr.next x' true ty) := by
 unfold anext at h
 split at h
 case h_2 => cases h
 rename_i id
 split at h
 case h_2 => cases h
 rename_i s pos hh
 obtain ⟨m, hm, rfl⟩ := hx.ptr_inv
 obtain ⟨m2, hm2, hmo, hbase, hhp⟩ := hS.ok _ _ hh
 rw [hm] at hm2; cases hm2
 have hget : (getObj m.b).run P w = .ok (.stringIter s pos) w := by simp [getObj, Sem.run, hhp]
 have hat : m.at_ 0 = ⟨m.b, 0, none⟩ := by simp [Place.at_, hmo]
 have hlt : m.b < w.heap.size := (hS.dom id 0 m hm).2
 split at h
 case isFalse => cases h
 split at h
 ·rename_i hpos
  cases h
  refine ⟨μ, .tuple #[.bool true, .int .i64 pos, .int .i32 (Utf8.decode s pos).1], { w with heap := w.heap.setIfInBounds m.b (.stringIter s (pos + (Utf8.decode s pos).2)) }, ?_, Sub.refl μ, ?_, ?_⟩
  ·rw [hat]
   simp [Instr.next, hget, hpos, setObj, Sem.run, hhp, goInt]
  ·exact VRel.of_plain rfl
  ·refine hS.update (o := .iter s pos) (L0 := 0) (m := m) hh rfl rfl hm (Sub.refl μ) (fun _ _ _ => rfl) (fun b _ hne => by simp [Array.getElem?_setIfInBounds_ne (fun e => hne e.symm)]) hbase (by simp) rfl rfl rfl
    ⟨m, hm, hmo, hbase, by simp [hlt]⟩ (fun K p hK hp => ?_) (fun K p hp => by simpa using (hS.dom id K p hp).2) (fun K p cs e wr md _ ho => by cases ho) (by intro h; cases h)
   simp only [lives] at hK
   subst hK
   exact .inl ⟨0, m, rfl, hm, by rw [hm] at hp; cases hp; rfl⟩
 ·rename_i hpos
  cases h
  refine ⟨μ, .tuple #[.bool false], w, ?_, Sub.refl μ, VRel.of_plain rfl, hS⟩
  rw [hat]
  simp [Instr.next, hget, hpos]
end
end Go.Proofs.Ythjkodbinkiifaa.Am
namespace Go.Proofs.Ythjkodbinkiifaa.Am
open Go Go.RowKit

theorem exec_packed {S : Sys} {c : ACode} {lv : List Nat} {f : Ex → Ex} {fr : Frame} {H : AHeap} {r : LO} (h : exec S c LO fr H (fun e fr H => some (f e, pack lv fr, H)) = some r) :
  ∃ e fr1 H1, exec S c R3 fr H ret3 = some (e, fr1, H1) ∧ r = (f e, pack lv fr1, H1) := by
 rw [exec_bind] at h
 obtain ⟨⟨e, fr1, H1⟩, h1, h2⟩ := bind_some' h
 exact ⟨e, fr1, H1, h1, by simpa using h2.symm⟩

theorem quiet_some {H H' : AHeap} {r : Option Value} {v : Value} (h : quiet H r = some (v, H')) : r = some v ∧ H' = H := by
 obtain ⟨u, h1, h2⟩ := map_some' h
 cases h2
 exact ⟨h1, rfl⟩
theorem effect_some {H' : AHeap} {r : Option AHeap} {v : Value} (h : effect r = some (v, H')) : r = some H' ∧ v = undef := by
 obtain ⟨u, h1, h2⟩ := map_some' h
 cases h2
 exact ⟨h1, rfl⟩

/-! ### What is below a mark stays -/
def Keeps (p : Nat) (H H' : AHeap) : Prop := H.length ≤ H'.length ∧ ∀ id, id < p → H'[id]? = H[id]?
theorem Keeps.refl (p : Nat) (H : AHeap) : Keeps p H H := ⟨Nat.le_refl _, fun _ _ => rfl⟩
theorem Keeps.trans {p : Nat} {a b c : AHeap} (h : Keeps p a b) (k : Keeps p b c) : Keeps p a c := ⟨Nat.le_trans h.1 k.1, fun id hi => (k.2 id hi).trans (h.2 id hi)⟩
theorem Keeps.append {p : Nat} {H : AHeap} (hp : p ≤ H.length) (l : List AObj) : Keeps p H (H ++ l) := ⟨by simp, fun id hi => List.getElem?_append_left (by omega)⟩
theorem Keeps.set {p : Nat} {H : AHeap} {id : Nat} (hp : p ≤ id) (o : AObj) : Keeps p H (H.set id o) := ⟨by simp, fun i hi => List.getElem?_set_ne (by omega)⟩
theorem Keeps.mono {p q : Nat} {a b : AHeap} (h : Keeps q a b) (hp : p ≤ q) : Keeps p a b := ⟨h.1, fun id hi => h.2 id (by omega)⟩

def ClKeeps (cl : FuncId → List Value → Nat → AHeap → Option (Value × AHeap)) : Prop :=
 ∀ f args prot H v H', cl f args prot H = some (v, H') → prot ≤ H.length → Keeps prot H H'

theorem setCells_keeps {H H' : AHeap} {prot id L off : Nat} {vs : List Value} (h : setCells H prot id L off vs = some H') : Keeps prot H H' := by
 obtain ⟨cs, e, wr, md, _, _, hp, _, _, _, rfl⟩ := setCells_some h
 exact Keeps.set hp _

theorem aop_keepsH {S : Sys} (hk : ClKeeps S.cl) {o : Op} {fr : Frame} {H H' : AHeap} {v : Value} (h : aop S o fr H = some (v, H')) (hp : S.prot ≤ H.length) : Keeps S.prot H H' := by
 have q : ∀ {r : Option Value}, quiet H r = some (v, H') → Keeps S.prot H H' := fun hq => by rw [(quiet_some hq).2]; exact Keeps.refl _ _
 cases o with
 | move x => cases h; exact Keeps.refl _ _
 | assign x => cases h; exact Keeps.refl _ _
 | pick c x y =>
  simp only [aop] at h
  split at h
  ·cases h; exact Keeps.refl _ _
  ·cases h
 | alloc e =>
  simp only [aop, aalloc] at h
  obtain ⟨z, _, h⟩ := bind_some' h
  split at h
  ·cases h; exact Keeps.append hp _
  ·cases h
 | box e x =>
  simp only [aop, abox] at h
  split at h
  ·cases h; exact Keeps.append hp _
  ·cases h
 | build t ps => exact q h
 | buildSlice t n ps =>
  simp only [aop, abuildSlice] at h
  obtain ⟨e, _, h⟩ := bind_some' h
  obtain ⟨s, _, h⟩ := bind_some' h
  split at h
  ·split at h
   ·cases h; exact Keeps.refl _ _
   ·cases h
  ·split at h
   ·cases h
   ·obtain ⟨z, _, h⟩ := bind_some' h
    split at h
    ·obtain ⟨cs, _, h⟩ := map_some' h
     cases h; exact Keeps.append hp _
    ·cases h
 | load t x => exact q h
 | store t x y =>
  obtain ⟨h1, _⟩ := effect_some h
  unfold astore at h1
  split at h1
  ·split at h1
   ·split at h1
    ·exact setCells_keeps h1
    ·cases h1
   ·cases h1
  ·cases h1
 | nilCheck x => exact q h
 | binOp op t x y yt => exact q h
 | unOp op t x => exact q h
 | convert src dst x => exact q h
 | makeFunc fn first cap =>
  cases fn with
  | func f =>
   simp only [aop] at h
   cases h; exact Keeps.refl _ _
  | _ => cases h
 | makeMap t r =>
  cases r with
  | none =>
   simp only [aop, amakeMap] at h
   cases h; exact Keeps.append hp _
  | some r => cases h
 | makeSlice t l c =>
  simp only [aop, amakeSlice] at h
  split at h
  ·obtain ⟨e, _, h⟩ := bind_some' h
   obtain ⟨s, _, h⟩ := bind_some' h
   obtain ⟨b, _, h⟩ := bind_some' h
   obtain ⟨z, _, h⟩ := bind_some' h
   split at h
   ·cases h; exact Keeps.append hp _
   ·cases h
  ·cases h
 | slice t x lo hi mx => exact q h
 | fieldAddr t x f => exact q h
 | field t x f => exact q h
 | indexAddr t x i => exact q h
 | index t x i => exact q h
 | lookup t x i ok => exact q h
 | mapUpdate t m k x =>
  obtain ⟨h1, _⟩ := effect_some h
  unfold amapUpdate at h1
  split at h1
  case h_2 => cases h1
  split at h1
  case h_2 => cases h1
  obtain ⟨r, _, h1⟩ := bind_some' h1
  split at h1
  case isFalse => cases h1
  rename_i hc
  obtain ⟨_, _, h1⟩ := bind_some' h1
  obtain ⟨i, _, h1⟩ := bind_some' h1
  split at h1
  ·split at h1
   ·split at h1
    ·cases h1; exact Keeps.set hc.2 _
    ·cases h1
   ·cases h1
  ·cases h1; exact Keeps.set hc.2 _
 | insert t m k x =>
  obtain ⟨h1, _⟩ := effect_some h
  unfold amapUpdate at h1
  split at h1
  case h_2 => cases h1
  split at h1
  case h_2 => cases h1
  obtain ⟨r, _, h1⟩ := bind_some' h1
  split at h1
  case isFalse => cases h1
  rename_i hc
  obtain ⟨_, _, h1⟩ := bind_some' h1
  obtain ⟨i, _, h1⟩ := bind_some' h1
  split at h1
  ·split at h1
   ·split at h1
    ·cases h1; exact Keeps.set hc.2 _
    ·cases h1
   ·cases h1
  ·cases h1; exact Keeps.set hc.2 _
 | range t x =>
  simp only [aop, arange] at h
  split at h
  ·cases h; exact Keeps.append hp _
  ·cases h
 | next it isS =>
  cases isS with
  | true =>
   simp only [aop, anext] at h
   split at h
   case h_2 => cases h
   split at h
   case h_2 => cases h
   split at h
   case isFalse => cases h
   rename_i hc
   split at h
   ·cases h; exact Keeps.set hc _
   ·cases h; exact Keeps.refl _ _
  | false => cases h
 | extract t i => exact q h
 | call c =>
  obtain ⟨callee, args, ts⟩ := c
  cases callee with
  | builtin b =>
   simp only [aop] at h
   unfold abuiltin at h
   split at h
   ·exact q h
   ·unfold aappend at h
    obtain ⟨e, _, h⟩ := bind_some' h
    obtain ⟨s, _, h⟩ := bind_some' h
    obtain ⟨b, _, h⟩ := bind_some' h
    obtain ⟨z, _, h⟩ := bind_some' h
    split at h
    case isFalse => cases h
    obtain ⟨⟨m, cs⟩, _, h⟩ := bind_some' h
    dsimp only at h
    split at h
    case isFalse => cases h
    split at h
    ·split at h
     ·cases h; exact Keeps.refl _ _
     ·split at h
      ·cases h; exact Keeps.append hp _
      ·cases h
    ·split at h
     ·cases h; exact Keeps.refl _ _
     ·split at h
      ·cases h; exact Keeps.append hp _
      ·cases h
    ·split at h
     ·split at h
      ·cases h; exact Keeps.refl _ _
      ·cases h
     ·split at h
      ·split at h
       ·cases h
       obtain ⟨H2, h2, h3⟩ := map_some' h
       cases h3
       exact setCells_keeps h2
      ·split at h
       ·split at h
        ·rename_i hc
         cases h; exact Keeps.set hc.2.1 _
        ·cases h
       ·cases h
    ·cases h
   ·unfold acopy at h
    obtain ⟨e, _, h⟩ := bind_some' h
    obtain ⟨s, _, h⟩ := bind_some' h
    obtain ⟨r, _, h⟩ := bind_some' h
    split at h
    ·cases h; exact Keeps.refl _ _
    ·cases h; exact Keeps.refl _ _
    ·split at h
     ·obtain ⟨H2, h2, h3⟩ := map_some' h
      cases h3
      exact setCells_keeps h2
     ·cases h
    ·cases h
   ·exact q h
   ·exact q h
   ·obtain ⟨h1, _⟩ := effect_some h
    unfold amapDelete at h1
    split at h1
    case h_2 => cases h1
    split at h1
    case h_2 => cases h1
    obtain ⟨r, _, h1⟩ := bind_some' h1
    split at h1
    case isFalse => cases h1
    rename_i hc
    obtain ⟨_, _, h1⟩ := bind_some' h1
    obtain ⟨i, _, h1⟩ := bind_some' h1
    split at h1
    ·cases h1; exact Keeps.set hc.2 _
    ·cases h1; exact Keeps.refl _ _
   ·cases h
  | value f =>
   simp only [aop] at h
   split at h
   case h_2 => cases h
   unfold acall at h
   split at h
   case h_2 => cases h
   split at h
   ·split at h
    ·exact q h
    ·cases h
   ·exact hk _ _ _ _ _ _ h hp
  | invoke r m => cases h
 | _ => cases h

theorem stepOp_keepsH {S : Sys} (hk : ClKeeps S.cl) {ops : Array Oper} {o : Oper} {fr fr' : Frame} {H H' : AHeap} (h : stepOp S ops o fr H ret2 = some (fr', H')) (hp : S.prot ≤ H.length) : Keeps S.prot H H' := by
 obtain ⟨v, _, hc⟩ := stepOp_some h
 rcases hc with ⟨_, hr⟩ | ⟨_, _, _, _, _, _, hr⟩ | ⟨_, _, _, _, _, rfl⟩
 ·exact aop_keepsH hk hr hp
 ·exact aop_keepsH hk hr hp
 ·exact Keeps.refl _ _

theorem runOps_keepsH {S : Sys} (hk : ClKeeps S.cl) {ops : Array Oper} : ∀ (l : List Oper) {fr fr' : Frame} {H H' : AHeap}, runOps S ops l fr H ret2 = some (fr', H') → S.prot ≤ H.length → Keeps S.prot H H'
 | [], fr, fr', H, H', h, _ => by
  simp only [runOps, ret2, Option.some.injEq, Prod.mk.injEq] at h
  rw [h.2]; exact Keeps.refl _ _
 | o :: l, fr, fr', H, H', h, hp => by
  obtain ⟨fr1, H1, h1, h2⟩ := runOps_cons h
  have k1 := stepOp_keepsH hk h1 hp
  exact k1.trans (runOps_keepsH hk l h2 (Nat.le_trans hp k1.1))

theorem aopA_keepsH {S : Sys} (hk : ClKeeps S.cl) {hid : Nat} (hh : S.prot ≤ hid) {o : Op} {fr : Frame} {H H' : AHeap} {v : Value} (h : aopA S hid o fr H = some (v, H')) (hp : S.prot ≤ H.length) : Keeps S.prot H H' := by
 unfold aopA at h
 split at h
 case isFalse => cases h
 obtain ⟨⟨v1, H1⟩, h1, h2⟩ := bind_some' h
 have k := aop_keepsH hk h1 hp
 dsimp only at h2
 split at h2
 ·cases h2; exact Keeps.set hh _
 ·cases h2; exact k
 ·cases h2

theorem stepI_keepsH {S : Sys} (hk : ClKeeps S.cl) {rsv : Bool} {ops : Array Oper} {base i : Nat} (hb : rsv = true → S.prot ≤ base) {fr fr' : Frame} {H H' : AHeap} (h : stepI S rsv ops base i fr H ret2 = some (fr', H')) (hp : S.prot ≤ H.length) : Keeps S.prot H H' := by
 obtain ⟨o, v, _, _, hc⟩ := stepI_some h
 have run : runnerI S rsv ops base i o.op fr H = some (v, H') → Keeps S.prot H H' := by
  intro hr
  unfold runnerI at hr
  split at hr
  ·rename_i hc
   simp only [Bool.and_eq_true] at hc
   exact aopA_keepsH hk (Nat.le_trans (hb hc.1) (Nat.le_add_right _ _)) hr hp
  ·exact aop_keepsH hk hr hp
 rcases hc with ⟨_, hr⟩ | ⟨_, _, _, _, _, _, hr⟩ | ⟨_, _, _, _, _, rfl⟩
 ·exact run hr
 ·exact run hr
 ·exact Keeps.refl _ _

theorem runI_keepsH {S : Sys} (hk : ClKeeps S.cl) {rsv : Bool} {ops : Array Oper} {base : Nat} (hb : rsv = true → S.prot ≤ base) : ∀ (l : List Nat) {fr fr' : Frame} {H H' : AHeap}, runI S rsv ops base l fr H ret2 = some (fr', H') → S.prot ≤ H.length → Keeps S.prot H H'
 | [], fr, fr', H, H', h, _ => by
  simp only [runI, ret2, Option.some.injEq, Prod.mk.injEq] at h
  rw [h.2]; exact Keeps.refl _ _
 | i :: l, fr, fr', H, H', h, hp => by
  obtain ⟨fr1, H1, h1, h2⟩ := runI_cons h
  have k1 := stepI_keepsH hk hb h1 hp
  exact k1.trans (runI_keepsH hk hb l h2 (Nat.le_trans hp k1.1))

theorem drawRun_keepsH {S : Sys} (hk : ClKeeps S.cl) {ops : Array Oper} {fr fr' : Frame} {H H' : AHeap} (h : drawRun S ops fr H ret2 = some (fr', H')) (hp : S.prot ≤ H.length) : Keeps S.prot H H' := by
 unfold drawRun at h
 split at h
 ·exact runI_keepsH (S := S) hk (fun e => by cases e) _ h hp
 ·split at h
  ·exact runI_keepsH (S := drawn S) hk (fun e => by cases e) _ h hp
  split at h
  ·exact (Keeps.append hp _).trans (runI_keepsH (S := drawn S) hk (fun _ => hp) _ h (by simp; exact Nat.le_trans hp (Nat.le_add_right _ _)))
  split at h
  ·exact runI_keepsH (S := drawn S) hk (fun e => by cases e) _ (drawFar_some h).1 hp
  ·cases h

theorem exec_keepsH {S : Sys} (hk : ClKeeps S.cl) (n : Nat) (hlp : S.lp = loopN n) : ∀ (c : ACode) (fr : Frame) (H : AHeap) (e : Ex) (fr' : Frame) (H' : AHeap), exec S c R3 fr H ret3 = some (e, fr', H') → S.prot ≤ H.length → Keeps S.prot H H' := by
 intro c
 induction c with
 | skip => intro fr H e fr' H' h _; simp [exec, ret3] at h; rw [h.2.2]; exact Keeps.refl _ _
 | region id ops draw =>
  intro fr H e fr' H' h hp
  simp only [exec] at h
  split at h
  ·rw [drawRun_bind] at h
   obtain ⟨⟨fr1, H1⟩, h1, h2⟩ := bind_some' h
   simp [ret3] at h2
   rw [← h2.2.2]
   exact drawRun_keepsH hk h1 hp
  ·rw [runOps_bind] at h
   obtain ⟨⟨fr1, H1⟩, h1, h2⟩ := bind_some' h
   simp [ret3] at h2
   rw [← h2.2.2]
   exact runOps_keepsH hk _ h1 hp
 | seq a b iha ihb =>
  intro fr H e fr' H' h hp
  simp only [exec] at h
  rw [exec_bind] at h
  obtain ⟨⟨e1, fr1, H1⟩, h1, h2⟩ := bind_some' h
  have k1 := iha fr H e1 fr1 H1 h1 hp
  cases e1 with
  | normal => exact k1.trans (ihb fr1 H1 e fr' H' h2 (Nat.le_trans hp k1.1))
  | exit n => simp [ret3] at h2; rw [← h2.2.2]; exact k1
  | ret => simp [ret3] at h2; rw [← h2.2.2]; exact k1
 | cond c a b lv iha ihb =>
  intro fr H e fr' H' h hp
  simp only [exec] at h
  unfold onBool at h
  split at h
  ·rename_i t _
   obtain ⟨r, h1, h2⟩ := bind_some' h
   simp [ret3] at h2
   rw [← h2.2.2]
   cases t with
   | true =>
    simp only [if_true] at h1
    obtain ⟨e1, fr1, H1, h3, rfl⟩ := exec_packed (f := id) h1
    exact iha _ _ _ _ _ h3 hp
   | false =>
    simp only [Bool.false_eq_true, if_false] at h1
    obtain ⟨e1, fr1, H1, h3, rfl⟩ := exec_packed (f := id) h1
    exact ihb _ _ _ _ _ h3 hp
  ·cases h
 | block id b lv ih =>
  intro fr H e fr' H' h hp
  simp only [exec] at h
  obtain ⟨r, h1, h2⟩ := bind_some' h
  simp [ret3] at h2
  rw [← h2.2.2]
  obtain ⟨e1, fr1, H1, h3, rfl⟩ := exec_packed (f := inBlock id) h1
  exact ih _ _ _ _ _ h3 hp
 | loop b lv lo ih =>
  intro fr H e fr' H' h hp
  simp only [exec, hlp] at h
  obtain ⟨r, h1, h2⟩ := bind_some' h
  simp [ret3] at h2
  rw [← h2.2.2]
  have key : ∀ (k : Nat) (vs : List Value) (H0 : AHeap) (r : LO), loopN k (fun s => exec S b (LS ⊕ LO) (slotsOf lv s.1) s.2 fun e fr' H' =>
    match e with
    | .normal => some (.inl (pack lv fr', H'))
    | .exit n => some (.inr (.exit n, pack lo fr', H'))
    | .ret => some (.inr (.ret, pack lo fr', H'))) (vs, H0) = some r → S.prot ≤ H0.length → Keeps S.prot H0 r.2.2 := by
   intro k
   induction k with
   | zero => intro vs H0 r hr; simp [loopN] at hr
   | succ k ihk =>
    intro vs H0 r hr hp0
    simp only [loopN] at hr
    obtain ⟨x, hx, hr⟩ := bind_some' hr
    rw [exec_bind] at hx
    obtain ⟨⟨e1, fr1, H1⟩, h3, h4⟩ := bind_some' hx
    have k1 := ih _ _ _ _ _ h3 hp0
    cases e1 with
    | normal =>
     simp only [Option.some.injEq] at h4
     subst h4
     exact k1.trans (ihk _ _ r hr (Nat.le_trans hp0 k1.1))
    | exit j =>
     simp only [Option.some.injEq] at h4
     subst h4
     simp only [Option.some.injEq] at hr
     subst hr
     exact k1
    | ret =>
     simp only [Option.some.injEq] at h4
     subst h4
     simp only [Option.some.injEq] at hr
     subst hr
     exact k1
  exact key n (pack lv fr) H r h1 hp
 | exit n => intro fr H e fr' H' h _; simp [exec, ret3] at h; rw [h.2.2]; exact Keeps.refl _ _
 | scope b ih => intro fr H e fr' H' h hp; exact ih fr H e fr' H' h hp
 | label l => intro fr H e fr' H' h _; simp [exec, ret3] at h; rw [h.2.2]; exact Keeps.refl _ _
 | ret => intro fr H e fr' H' h _; simp [exec, ret3] at h; rw [h.2.2]; exact Keeps.refl _ _
 | other c => intro fr H e fr' H' h; simp [exec] at h

end Go.Proofs.Ythjkodbinkiifaa.Am
