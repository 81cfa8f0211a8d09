/- A part of the proof of a given statement: Sp24_Num, Sp24_Least, P24_27, Sp24_Classes, Sp24_Cl27, Sp24_C27, Sp24_C27o, P24_41, Sp24_Truths, P24_18, P24_19, P24_12, Sp24_Pieces. No condition. -/
import Derived.Test.YtedfombojnfbiaaPart11
import Derived.Lib.Bytealg
namespace Go.Proofs.Ytedfombojnfbiaa.Am24
open Go Go.Proofs.Ytedfombojnfbiaa.Am

/-- The number of a word, from a number on. -/
def numF (k : Nat) (a : Nat) : List UInt8 → Nat
  | [] => a
  | b :: l => numF k (k * a + (b.toNat - 97) + 1) l
def numB (k : Nat) (l : List UInt8) : Nat := numF k 0 l

theorem numF_append (k : Nat) : ∀ (l m : List UInt8) (a : Nat), numF k a (l ++ m) = numF k (numF k a l) m
  | [], m, a => rfl
  | b :: l, m, a => numF_append k l m _
theorem WdL.cons {k : Nat} {b : UInt8} {l : List UInt8} : WdL k (b :: l) ↔ (97 ≤ b.toNat ∧ b.toNat < 97 + k) ∧ WdL k l := by
  unfold WdL
  simp only [List.mem_cons]
  exact ⟨fun h => ⟨h b (.inl rfl), fun x hx => h x (.inr hx)⟩, fun h x hx => hx.elim (fun e => by rw [e]; exact h.1) (h.2 x)⟩
/-- From a lesser number on: a lesser number, if the words are as long. -/
theorem numF_lt {k : Nat} : ∀ (l m : List UInt8) (a c : Nat), l.length = m.length → WdL k l → a < c → numF k a l < numF k c m
  | [], [], a, c, _, _, h => h
  | [], _ :: _, a, c, h, _, _ => by simp at h
  | _ :: _, [], a, c, h, _, _ => by simp at h
  | b :: l, d :: m, a, c, hl, hw, h => by
    simp only [numF]
    obtain ⟨h1, h2⟩ := WdL.cons.1 hw
    refine numF_lt l m _ _ (by simpa using hl) h2 ?_
    have := Nat.mul_le_mul (Nat.le_refl k) (show a + 1 ≤ c by omega)
    rw [Nat.mul_add, Nat.mul_one] at this
    omega
theorem numF_le_self {k : Nat} (hk : 1 ≤ k) : ∀ (l : List UInt8) (a : Nat), a + l.length ≤ numF k a l
  | [], a => Nat.le_refl _
  | b :: l, a => by
    simp only [numF, List.length_cons]
    have := numF_le_self hk l (k * a + (b.toNat - 97) + 1)
    have h := Nat.mul_le_mul hk (Nat.le_refl a)
    omega
/-- Longer words have greater numbers. -/
theorem numF_len {k : Nat} (hk : 1 ≤ k) {l m : List UInt8} (h : l.length < m.length) (hl : WdL k l) : numB k l < numB k m := by
  unfold numB
  have e : m = m.take (m.length - l.length) ++ m.drop (m.length - l.length) := (List.take_append_drop _ _).symm
  rw [e, numF_append]
  refine numF_lt l _ 0 _ (by simp; omega) hl ?_
  have := numF_le_self hk (m.take (m.length - l.length)) 0
  simp at this
  omega
theorem numF_inj {k : Nat} : ∀ (l m : List UInt8) (a : Nat), l.length = m.length → WdL k l → WdL k m → numF k a l = numF k a m → l = m
  | [], [], a, _, _, _, _ => rfl
  | [], _ :: _, a, h, _, _, _ => by simp at h
  | _ :: _, [], a, h, _, _, _ => by simp at h
  | b :: l, d :: m, a, hl, hw, hv, h => by
    obtain ⟨h1, h2⟩ := WdL.cons.1 hw
    obtain ⟨h3, h4⟩ := WdL.cons.1 hv
    simp only [numF] at h
    have hll : l.length = m.length := by simpa using hl
    have e : b = d := by
      apply UInt8.toNat_inj.1
      rcases Nat.lt_trichotomy b.toNat d.toNat with hlt | heq | hgt
      · have := numF_lt l m (k * a + (b.toNat - 97) + 1) (k * a + (d.toNat - 97) + 1) hll h2 (by omega)
        omega
      · exact heq
      · have := numF_lt m l (k * a + (d.toNat - 97) + 1) (k * a + (b.toNat - 97) + 1) hll.symm h4 (by omega)
        omega
    subst e
    rw [numF_inj l m _ hll h2 h4 h]
theorem num_inj {k : Nat} (hk : 1 ≤ k) {l m : List UInt8} (hl : WdL k l) (hm : WdL k m) (h : numB k l = numB k m) : l = m := by
  rcases Nat.lt_trichotomy l.length m.length with hlt | heq | hgt
  · have := numF_len hk hlt hl; omega
  · exact numF_inj l m 0 heq hl hm h
  · have := numF_len hk hgt hm; omega
theorem numF_lin {k : Nat} : ∀ (l : List UInt8) (a : Nat), numF k a l = a * k ^ l.length + numB k l
  | [], a => by simp [numF, numB]
  | b :: l, a => by
    have h1 := numF_lin (k := k) l (k * a + (b.toNat - 97) + 1)
    have h2 := numF_lin (k := k) l (k * 0 + (b.toNat - 97) + 1)
    unfold numB
    simp only [numF, List.length_cons]
    rw [h1, h2, Nat.pow_succ]
    simp only [Nat.add_mul, Nat.mul_zero, Nat.zero_mul, Nat.zero_add]
    have : k * a * k ^ l.length = a * (k ^ l.length * k) := by rw [Nat.mul_comm k a, Nat.mul_assoc, Nat.mul_comm k]
    omega
/-- A lesser factor makes a lesser word. -/
theorem num_ctx {k : Nat} (hk : 1 ≤ k) {a x y b : List UInt8} (hx : WdL k x) (hy : WdL k y) (hb : WdL k b) (h : numB k x < numB k y) : numB k (a ++ x ++ b) < numB k (a ++ y ++ b) := by
  unfold numB
  rw [numF_append, numF_append, numF_append, numF_append]
  refine numF_lt b b _ _ rfl hb ?_
  rw [numF_lin x, numF_lin y]
  have hl : x.length ≤ y.length := by
    cases Nat.lt_or_ge y.length x.length with
    | inl hlt => have := numF_len hk hlt hy; omega
    | inr hge => exact hge
  have := Nat.mul_le_mul (Nat.le_refl (numF k 0 a)) (Nat.pow_le_pow_right hk hl)
  omega

theorem cmp_num {k : Nat} : ∀ (l m : List UInt8) (a : Nat), l.length = m.length → WdL k l → WdL k m → (Lib.compareBytes l m < 0 ↔ numF k a l < numF k a m)
  | [], [], a, _, _, _ => by simp [Lib.compareBytes]
  | [], _ :: _, a, h, _, _ => by simp at h
  | _ :: _, [], a, h, _, _ => by simp at h
  | b :: l, d :: m, a, hl, hw, hv => by
    obtain ⟨h1, h2⟩ := WdL.cons.1 hw
    obtain ⟨h3, h4⟩ := WdL.cons.1 hv
    have hll : l.length = m.length := by simpa using hl
    simp only [Lib.compareBytes, numF]
    by_cases hlt : b < d
    · rw [if_pos hlt]
      have hn : b.toNat < d.toNat := hlt
      have := numF_lt l m (k * a + (b.toNat - 97) + 1) (k * a + (d.toNat - 97) + 1) hll h2 (by omega)
      omega
    · rw [if_neg hlt]
      by_cases hgt : d < b
      · rw [if_pos hgt]
        have hn : d.toNat < b.toNat := hgt
        have := numF_lt m l (k * a + (d.toNat - 97) + 1) (k * a + (b.toNat - 97) + 1) hll.symm h4 (by omega)
        omega
      · rw [if_neg hgt]
        have e : b = d := by
          apply UInt8.toNat_inj.1
          have h5 : ¬ b.toNat < d.toNat := hlt
          have h6 : ¬ d.toNat < b.toNat := hgt
          omega
        subst e
        exact cmp_num l m _ hll h2 h4

/-- What Order answers. -/
def ordV (u v : ByteArray) : Int := if u.size = v.size then Extern.BytealgCompare.cmp u v else if u.size < v.size then -1 else 1
theorem c43 (u v : ByteArray) (prot : Nat) (H : AHeap) : callInf cfg 43 [.string u, .string v] prot H = some (.int .i64 (Extern.BytealgCompare.cmp u v), H) :=
  f43_F_0 u v H prot _ rfl
theorem c25 (u v : ByteArray) (prot : Nat) (H : AHeap) : callInf cfg 25 [.string u, .string v] prot H = some (.int .i64 (ordV u v), H) := by
  unfold ordV
  by_cases h : u.size = v.size
  · rw [if_pos h]
    exact f25_F_2 u v H prot _ (by rw [h]; simp) (f36_F_0 u v H H.length _ (c43 u v _ _))
  · rw [if_neg h]
    have hne : ((u.size : Int) != (v.size : Int)) = true := by simpa using (fun e : (u.size : Int) = v.size => h (by omega))
    by_cases h2 : u.size < v.size
    · rw [if_pos h2]
      exact f25_F_0 u v H prot hne (by omega)
    · rw [if_neg h2]
      exact f25_F_1 u v H prot hne (by omega)
theorem ord_num {k : Nat} (hk : 1 ≤ k) {u v : ByteArray} (hu : Wd k u) (hv : Wd k v) : ordV u v < 0 ↔ numB k (bl u) < numB k (bl v) := by
  have wu := (wd_iff k u).1 hu
  have wv := (wd_iff k v).1 hv
  unfold ordV
  by_cases h : u.size = v.size
  · rw [if_pos h, Lib.cmp_eq]
    exact cmp_num (bl u) (bl v) 0 h wu wv
  · rw [if_neg h]
    by_cases h2 : u.size < v.size
    · rw [if_pos h2]
      have := numF_len hk (l := bl u) (m := bl v) h2 wu
      omega
    · rw [if_neg h2]
      have := numF_len hk (l := bl v) (m := bl u) (show v.size < u.size by omega) wv
      omega
theorem num_ext1 {k : Nat} {w : ByteArray} {l : Nat} (hl : l < 100) : numB k (bl (ext1 w l)) = k * numB k (bl w) + l + 1 := by
  unfold numB
  rw [bl_ext1, numF_append]
  simp only [numF, UInt8.toNat_ofNat']
  omega
theorem num_take {k : Nat} {w : ByteArray} {p : Nat} (ht : (bl w).take (p + 1) = (bl w).take p ++ [UInt8.ofNat (97 + ltr w p)]) (hl : ltr w p < 100) : numB k ((bl w).take (p + 1)) = k * numB k ((bl w).take p) + ltr w p + 1 := by
  unfold numB
  rw [ht, numF_append]
  simp only [numF, UInt8.toNat_ofNat']
  omega
end Go.Proofs.Ytedfombojnfbiaa.Am24
namespace Go.Proofs.Ytedfombojnfbiaa.Am24
open Go Go.Proofs.Ytedfombojnfbiaa.Am

structure NumOK (k : Nat) (ws : List ByteArray) (nx : List Nat) : Prop where
  srt : ∀ (i j : Nat) (u v : ByteArray), i < j → ws[i]? = some u → ws[j]? = some v → numB k (bl u) < numB k (bl v)
  lo : ∀ (q j : Nat), nx[q]? = some j → ∃ u v, ws[j]? = some u ∧ ws[q / k]? = some v ∧ numB k (bl u) ≤ k * numB k (bl v) + q % k + 1
def Top (k : Nat) (ws : List ByteArray) (m : Nat) : Prop := ∀ u ∈ ws, numB k (bl u) < m

theorem clsIn_num {k N i : Nat} (hk : k ≤ 8) : ∀ (d l : Nat) (ws : List ByteArray) (nx : List Nat) (r : List ByteArray × List Nat) (v : ByteArray), l + d = k → ws[i]? = some v → nx.length = i * k + l → NumOK k ws nx → Top k ws (k * numB k (bl v) + l + 1) → clsIn k N i d l ws nx = some r →
    NumOK k r.1 r.2 ∧ Top k r.1 (k * numB k (bl v) + k + 1) ∧ r.2.length = i * k + k ∧ ws.length ≤ r.1.length ∧ r.1[i]? = some v
  | 0, l, ws, nx, r, v, hl, hi, hn, h, ht, e => by
    simp only [clsIn, Option.some.injEq] at e
    subst e
    have : l = k := by omega
    subst this
    exact ⟨h, ht, hn, Nat.le_refl _, hi⟩
  | d + 1, l, ws, nx, r, v, hl, hi, hn, h, ht, e => by
    have hil := (List.getElem?_eq_some_iff.1 hi).1
    have hgd : ws.getD i ⟨#[]⟩ = v := by rw [List.getD_eq_getElem?_getD, hi]; rfl
    have hdiv : (i * k + l) / k = i := by rw [Nat.mul_comm, Nat.mul_add_div (by omega), Nat.div_eq_of_lt (by omega)]; rfl
    have hmod : (i * k + l) % k = l := by rw [Nat.mul_comm, Nat.mul_add_mod]; exact Nat.mod_eq_of_lt (by omega)
    simp only [clsIn] at e
    rw [hgd] at e
    cases hf : findC k N ws (ext1 v l) with
    | some j =>
      rw [hf] at e
      simp only at e
      unfold findC at hf
      obtain ⟨hj, _, _⟩ := List.findIdx?_eq_some_iff_getElem.1 hf
      refine clsIn_num hk d (l + 1) ws (nx ++ [j]) r v (by omega) hi (by simp; omega) ⟨h.srt, fun q m hq => ?_⟩ (fun u hu => by have := ht u hu; omega) e
      rcases snoc_get hq with ⟨_, hq⟩ | ⟨hq2, rfl⟩
      · exact h.lo q m hq
      · rw [hq2, hn, hdiv, hmod]
        exact ⟨ws[m], v, List.getElem?_eq_getElem hj, hi, by have := ht _ (List.getElem_mem hj); omega⟩
    | none =>
      rw [hf] at e
      simp only at e
      split at e
      · cases e
      · have hnum : numB k (bl (ext1 v l)) = k * numB k (bl v) + l + 1 := num_ext1 (by omega)
        have := clsIn_num hk d (l + 1) (ws ++ [ext1 v l]) (nx ++ [ws.length]) r v (by omega) (by rw [List.getElem?_append_left hil]; exact hi) (by simp; omega) ⟨fun a b u x hab hu hx => ?_, fun q m hq => ?_⟩ (fun u hu => ?_) e
        · exact ⟨this.1, this.2.1, this.2.2.1, by have := this.2.2.2.1; simp at this; omega, this.2.2.2.2⟩
        · rcases snoc_get hx with ⟨hb, hx⟩ | ⟨hb, rfl⟩
          · rcases snoc_get hu with ⟨_, hu⟩ | ⟨ha, _⟩
            · exact h.srt a b u x hab hu hx
            · omega
          · rcases snoc_get hu with ⟨_, hu⟩ | ⟨ha, _⟩
            · rw [hnum]; exact ht u (List.mem_of_getElem? hu)
            · omega
        · rcases snoc_get hq with ⟨_, hq⟩ | ⟨hq2, rfl⟩
          · obtain ⟨u, x, h1, h2, h3⟩ := h.lo q m hq
            have b1 := (List.getElem?_eq_some_iff.1 h1).1
            have b2 := (List.getElem?_eq_some_iff.1 h2).1
            exact ⟨u, x, by rw [List.getElem?_append_left b1]; exact h1, by rw [List.getElem?_append_left b2]; exact h2, h3⟩
          · rw [hq2, hn, hdiv, hmod]
            exact ⟨ext1 v l, v, by simp, by rw [List.getElem?_append_left hil]; exact hi, by omega⟩
        · rcases List.mem_append.1 hu with hu | hu
          · have := ht u hu; omega
          · have : u = ext1 v l := by simpa using hu
            rw [this, hnum]
            omega

theorem clsOut_num {k N : Nat} (hk : k ≤ 8) : ∀ (f i : Nat) (ws : List ByteArray) (nx : List Nat) (r : List ByteArray × List Nat), i ≤ ws.length → nx.length = i * k → NumOK k ws nx → (∀ v, ws[i]? = some v → Top k ws (k * numB k (bl v) + 0 + 1)) → clsOut k N f i ws nx = some r → NumOK k r.1 r.2
  | 0, i, ws, nx, r, hi, hn, h, ht, e => by simp [clsOut] at e
  | f + 1, i, ws, nx, r, hi, hn, h, ht, e => by
    simp only [clsOut] at e
    split at e
    · rename_i hlt
      cases hc : clsIn k N i k 0 ws nx with
      | none => rw [hc] at e; cases e
      | some r' =>
        rw [hc, Option.bind_some] at e
        obtain ⟨h1, h2, h3, h4, h5⟩ := clsIn_num hk k 0 ws nx r' ws[i] (by omega) (List.getElem?_eq_getElem hlt) (by omega) h (ht _ (List.getElem?_eq_getElem hlt)) hc
        refine clsOut_num hk f (i + 1) r'.1 r'.2 r (by omega) (by rw [h3, Nat.add_mul, Nat.one_mul]) h1 (fun v hv u hu => ?_) e
        have := h2 u hu
        have h6 := h1.srt i (i + 1) ws[i] v (by omega) h5 hv
        have h7 := Nat.mul_le_mul (Nat.le_refl k) (show numB k (bl ws[i]) + 1 ≤ numB k (bl v) by omega)
        rw [Nat.mul_add, Nat.mul_one] at h7
        omega
    · cases e
      exact h
theorem cls_num {k n : Nat} (hk : k ≤ 8) {r : List ByteArray × List Nat} (h : clsV k n = some r) : NumOK k r.1 r.2 := by
  refine clsOut_num hk 3001 0 [⟨#[]⟩] [] r (by simp) (by simp) ⟨fun i j u v hij hu hv => ?_, fun q j hq => by simp at hq⟩ (fun v hv u hu => ?_) h
  · cases j with
    | zero => omega
    | succ j => simp at hv
  · have : u = ⟨#[]⟩ := by simpa using hu
    subst this
    have e : numB k (bl ⟨#[]⟩) = 0 := rfl
    omega

theorem wlk_num {k n : Nat} (hk1 : 1 ≤ k) (hk : k ≤ 8) {ws : List ByteArray} {nx : List Nat} (ok : ClsOK k (sho k (n + 1)) ws nx) (h : NumOK k ws nx) (hl : nx.length = ws.length * k) {w : ByteArray} (hw : Wd k w) : ∀ (d p a : Nat), p + d = w.size → (∃ u, ws[a]? = some u ∧ numB k (bl u) ≤ numB k ((bl w).take p)) →
    ∃ u, ws[wlk k nx w d p a]? = some u ∧ numB k (bl u) ≤ numB k (bl w)
  | 0, p, a, hp, ⟨u, h1, h2⟩ => by
    rw [List.take_of_length_le (by rw [bl_len]; omega)] at h2
    exact ⟨u, h1, h2⟩
  | d + 1, p, a, hp, ⟨u, h1, h2⟩ => by
    obtain ⟨hlk, ht⟩ := letter_of (by omega) hw (show p < w.size by omega)
    simp only [wlk]
    refine wlk_num hk1 hk ok h hl hw d (p + 1) _ (by omega) ?_
    have ha : a < ws.length := (List.getElem?_eq_some_iff.1 h1).1
    have hq : a * k + ltr w p < nx.length := by
      have := Nat.mul_le_mul (show a + 1 ≤ ws.length by omega) (Nat.le_refl k)
      rw [Nat.add_mul, Nat.one_mul] at this
      omega
    have hdiv : (a * k + ltr w p) / k = a := by rw [Nat.mul_comm, Nat.mul_add_div (by omega), Nat.div_eq_of_lt (by omega)]; rfl
    have hmod : (a * k + ltr w p) % k = ltr w p := by rw [Nat.mul_comm, Nat.mul_add_mod]; exact Nat.mod_eq_of_lt (by omega)
    have hget : nx.getD (a * k + ltr w p) 0 = nx[a * k + ltr w p] := by simp [List.getD_eq_getElem?_getD, List.getElem?_eq_getElem hq]
    obtain ⟨u', v', g1, g2, g3⟩ := h.lo _ _ (List.getElem?_eq_getElem hq)
    rw [hdiv] at g2
    rw [hmod] at g3
    have : v' = u := Option.some.inj (g2.symm.trans h1)
    subst this
    refine ⟨u', by rw [hget]; exact g1, ?_⟩
    rw [num_take ht (by omega)]
    have := Nat.mul_le_mul (Nat.le_refl k) h2
    omega

/-- Of a word: the least word that is alike. -/
theorem short_ok {k n : Nat} (hk1 : 1 ≤ k) (hk : k ≤ 8) {r : List ByteArray × List Nat} (h : clsV k n = some r) (hws : ∀ w ∈ r.1, Wd k w) {w : ByteArray} (hw : Wd k w) :
    ∃ (j : Nat) (s : ByteArray), r.1[j]? = some s ∧ r.1.getD (wlk k r.2 w w.size 0 0) ⟨#[]⟩ = s ∧ Alike n (bl s) (bl w) ∧ Wd k s ∧ numB k (bl s) ≤ numB k (bl w) := by
  obtain ⟨ok, hl⟩ := cls_ok h
  have hnum := cls_num hk h
  obtain ⟨u, hu, hal⟩ := wlk_ok hk1 hk ok hl hws hw w.size 0 0 (by omega) ⟨⟨#[]⟩, ok.fst, fun p hp => by rw [List.take_zero]; rfl⟩
  obtain ⟨u', hu', hle⟩ := wlk_num hk1 hk ok hnum hl hw w.size 0 0 (by omega) ⟨⟨#[]⟩, ok.fst, by rw [List.take_zero]; exact Nat.le_refl _⟩
  have e : u' = u := Option.some.inj (hu'.symm.trans hu)
  subst e
  exact ⟨_, u', hu, by rw [List.getD_eq_getElem?_getD, hu]; rfl, hal, hws u' (List.mem_of_getElem? hu), hle⟩
theorem least_ok {k n : Nat} (hk1 : 1 ≤ k) (hk : k ≤ 8) {r : List ByteArray × List Nat} (h : clsV k n = some r) (hws : ∀ w ∈ r.1, Wd k w) {j : Nat} {s : ByteArray} (hs : r.1[j]? = some s) {x : ByteArray} (hx : Wd k x) (hal : Alike n (bl s) (bl x)) : numB k (bl s) ≤ numB k (bl x) := by
  obtain ⟨j', s', h1, _, h3, _, h5⟩ := short_ok hk1 hk h hws hx
  have := cls_uniq hk1 hk (cls_ok h).1 hws hs h1 (Alike.trans hal (Alike.symm h3))
  subst this
  have e : s' = s := Option.some.inj (h1.symm.trans hs)
  subst e
  exact h5
end Go.Proofs.Ytedfombojnfbiaa.Am24
set_option linter.unusedVariables false
open Go Go.Proofs.Ytedfombojnfbiaa.Am
namespace Go.Proofs.Ytedfombojnfbiaa.Am24
theorem f27_F_0 (x0 : Int) (x1 : Int) (H : AHeap) (prot : Nat) (x16 : Array Value) (H1 : AHeap) (x18 : Array Value) (x19a : Option Addr) (x19n : Nat) (x19c : Nat) (H2 : AHeap) (z4a : Option Addr) (z4n : Nat) (z4c : Nat) (z5m : Option Nat) (z6a : Option Addr) (z6n : Nat) (z6c : Nat) (z7 : Value) (H3 : AHeap) (rv : Value) (rH : AHeap) (h1 : callInf cfg 38 [] (List.length H) (H ++ [AObj.hole, AObj.hole]) = some (Value.agg x16, H ++ [AObj.hole, AObj.hole])) (h2 : (H ++ [AObj.hole, AObj.hole])[List.length H + 1]? = some AObj.hole) (h3 : amapUpdate cfg.P (List.length H) 53 (Value.map (some (List.length H + 1))) (Value.agg x16) (Value.int IntKind.i64 0) (List.set (H ++ [AObj.hole, AObj.hole]) (List.length H + 1) (AObj.map [])) = some H1) (h4 : H1[List.length H + 0]? = some AObj.hole) (h5 : callInf cfg 38 [] (List.length H) (List.set H1 (List.length H + 0) (AObj.cells [Value.string { data := { toList := [] } }] 9 [Value.string { data := { toList := [] } }].length OMode.row)) = some (Value.agg x18, List.set H1 (List.length H + 0) (AObj.cells [Value.string { data := { toList := [] } }] 9 [Value.string { data := { toList := [] } }].length OMode.row))) (h6 : abuildSlice cfg.P 74 1 [(0, Value.agg x18)] (List.set H1 (List.length H + 0) (AObj.cells [Value.string { data := { toList := [] } }] 9 [Value.string { data := { toList := [] } }].length OMode.row)) = some (Value.slice x19a x19n x19c, H2)) (h7 : lpInf (lpOf cfg a27 0 prot H) ([Value.int IntKind.i64 x0, Value.int IntKind.i64 x1, Value.slice (some { block := List.length H + 0, off := 0, spot := some (1 * 1) }) 1 1, Value.map (some (List.length H + 1)), Value.slice none 0 0, Value.slice x19a x19n x19c, Value.int IntKind.i64 0], H2) = some (Ex.exit 0, [Value.slice z4a z4n z4c, Value.map z5m, Value.slice z6a z6n z6c, z7], H3)) (h8 : pfin a27 H [Value.slice z4a z4n z4c, Value.map z5m, Value.slice z6a z6n z6c, Value.int IntKind.i64 0] H3 = (rv, rH)) : callInf cfg 27 [.int .i64 x0, .int .i64 x1] prot H = some (rv, rH) :=
  fn_of' a27 [.v (.agg x16), .e, .h H1, .e, .v (.agg x18), .r (.slice x19a x19n x19c) H2, .lo (.exit 0, [.slice z4a z4n z4c, .map z5m, .slice z6a z6n z6c, z7], H3)] ((callInf cfg 38 [] (List.length H) (H ++ [AObj.hole, AObj.hole]) = some (Value.agg x16, H ++ [AObj.hole, AObj.hole])) ∧ ((H ++ [AObj.hole, AObj.hole])[List.length H + 1]? = some AObj.hole) ∧ (amapUpdate cfg.P (List.length H) 53 (Value.map (some (List.length H + 1))) (Value.agg x16) (Value.int IntKind.i64 0) (List.set (H ++ [AObj.hole, AObj.hole]) (List.length H + 1) (AObj.map [])) = some H1) ∧ (H1[List.length H + 0]? = some AObj.hole) ∧ (callInf cfg 38 [] (List.length H) (List.set H1 (List.length H + 0) (AObj.cells [Value.string { data := { toList := [] } }] 9 [Value.string { data := { toList := [] } }].length OMode.row)) = some (Value.agg x18, List.set H1 (List.length H + 0) (AObj.cells [Value.string { data := { toList := [] } }] 9 [Value.string { data := { toList := [] } }].length OMode.row))) ∧ (abuildSlice cfg.P 74 1 [(0, Value.agg x18)] (List.set H1 (List.length H + 0) (AObj.cells [Value.string { data := { toList := [] } }] 9 [Value.string { data := { toList := [] } }].length OMode.row)) = some (Value.slice x19a x19n x19c, H2)) ∧ (lpInf (lpOf cfg a27 0 prot H) ([Value.int IntKind.i64 x0, Value.int IntKind.i64 x1, Value.slice (some { block := List.length H + 0, off := 0, spot := some (1 * 1) }) 1 1, Value.map (some (List.length H + 1)), Value.slice none 0 0, Value.slice x19a x19n x19c, Value.int IntKind.i64 0], H2) = some (Ex.exit 0, [Value.slice z4a z4n z4c, Value.map z5m, Value.slice z6a z6n z6c, z7], H3)) ∧ (pfin a27 H [Value.slice z4a z4n z4c, Value.map z5m, Value.slice z6a z6n z6c, Value.int IntKind.i64 0] H3 = (rv, rH))) (by kernel_rfl) ⟨h1, h2, h3, h4, h5, h6, h7, h8⟩ rfl
theorem f27_F_1 (x0 : Int) (x1 : Int) (H : AHeap) (prot : Nat) (x16 : Array Value) (H1 : AHeap) (x18 : Array Value) (x19a : Option Addr) (x19n : Nat) (x19c : Nat) (H2 : AHeap) (z4a : Option Addr) (z4n : Nat) (z4c : Nat) (z5m : Option Nat) (z6a : Option Addr) (z6n : Nat) (z6c : Nat) (z7 : Int) (H3 : AHeap) (rv : Value) (rH : AHeap) (h1 : callInf cfg 38 [] (List.length H) (H ++ [AObj.hole, AObj.hole]) = some (Value.agg x16, H ++ [AObj.hole, AObj.hole])) (h2 : (H ++ [AObj.hole, AObj.hole])[List.length H + 1]? = some AObj.hole) (h3 : amapUpdate cfg.P (List.length H) 53 (Value.map (some (List.length H + 1))) (Value.agg x16) (Value.int IntKind.i64 0) (List.set (H ++ [AObj.hole, AObj.hole]) (List.length H + 1) (AObj.map [])) = some H1) (h4 : H1[List.length H + 0]? = some AObj.hole) (h5 : callInf cfg 38 [] (List.length H) (List.set H1 (List.length H + 0) (AObj.cells [Value.string { data := { toList := [] } }] 9 [Value.string { data := { toList := [] } }].length OMode.row)) = some (Value.agg x18, List.set H1 (List.length H + 0) (AObj.cells [Value.string { data := { toList := [] } }] 9 [Value.string { data := { toList := [] } }].length OMode.row))) (h6 : abuildSlice cfg.P 74 1 [(0, Value.agg x18)] (List.set H1 (List.length H + 0) (AObj.cells [Value.string { data := { toList := [] } }] 9 [Value.string { data := { toList := [] } }].length OMode.row)) = some (Value.slice x19a x19n x19c, H2)) (h7 : lpInf (lpOf cfg a27 0 prot H) ([Value.int IntKind.i64 x0, Value.int IntKind.i64 x1, Value.slice (some { block := List.length H + 0, off := 0, spot := some (1 * 1) }) 1 1, Value.map (some (List.length H + 1)), Value.slice none 0 0, Value.slice x19a x19n x19c, Value.int IntKind.i64 0], H2) = some (Ex.ret, [Value.slice z4a z4n z4c, Value.map z5m, Value.slice z6a z6n z6c, Value.int IntKind.i64 z7], H3)) (h8 : pfin a27 H [Value.slice z4a z4n z4c, Value.map z5m, Value.slice z6a z6n z6c, Value.int IntKind.i64 z7] H3 = (rv, rH)) : callInf cfg 27 [.int .i64 x0, .int .i64 x1] prot H = some (rv, rH) :=
  fn_of' a27 [.v (.agg x16), .e, .h H1, .e, .v (.agg x18), .r (.slice x19a x19n x19c) H2, .lo (.ret, [.slice z4a z4n z4c, .map z5m, .slice z6a z6n z6c, .int .i64 z7], H3)] ((callInf cfg 38 [] (List.length H) (H ++ [AObj.hole, AObj.hole]) = some (Value.agg x16, H ++ [AObj.hole, AObj.hole])) ∧ ((H ++ [AObj.hole, AObj.hole])[List.length H + 1]? = some AObj.hole) ∧ (amapUpdate cfg.P (List.length H) 53 (Value.map (some (List.length H + 1))) (Value.agg x16) (Value.int IntKind.i64 0) (List.set (H ++ [AObj.hole, AObj.hole]) (List.length H + 1) (AObj.map [])) = some H1) ∧ (H1[List.length H + 0]? = some AObj.hole) ∧ (callInf cfg 38 [] (List.length H) (List.set H1 (List.length H + 0) (AObj.cells [Value.string { data := { toList := [] } }] 9 [Value.string { data := { toList := [] } }].length OMode.row)) = some (Value.agg x18, List.set H1 (List.length H + 0) (AObj.cells [Value.string { data := { toList := [] } }] 9 [Value.string { data := { toList := [] } }].length OMode.row))) ∧ (abuildSlice cfg.P 74 1 [(0, Value.agg x18)] (List.set H1 (List.length H + 0) (AObj.cells [Value.string { data := { toList := [] } }] 9 [Value.string { data := { toList := [] } }].length OMode.row)) = some (Value.slice x19a x19n x19c, H2)) ∧ (lpInf (lpOf cfg a27 0 prot H) ([Value.int IntKind.i64 x0, Value.int IntKind.i64 x1, Value.slice (some { block := List.length H + 0, off := 0, spot := some (1 * 1) }) 1 1, Value.map (some (List.length H + 1)), Value.slice none 0 0, Value.slice x19a x19n x19c, Value.int IntKind.i64 0], H2) = some (Ex.ret, [Value.slice z4a z4n z4c, Value.map z5m, Value.slice z6a z6n z6c, Value.int IntKind.i64 z7], H3)) ∧ (pfin a27 H [Value.slice z4a z4n z4c, Value.map z5m, Value.slice z6a z6n z6c, Value.int IntKind.i64 z7] H3 = (rv, rH))) (by kernel_rfl) ⟨h1, h2, h3, h4, h5, h6, h7, h8⟩ rfl
theorem f27_L0_0 (x0 : Int) (x1 : Int) (x4a : Option Addr) (x4n : Nat) (x4c : Nat) (x5m : Option Nat) (x6a : Option Addr) (x6n : Nat) (x6c : Nat) (x8a : Option Addr) (x8n : Nat) (x8c : Nat) (x9 : Int) (H0 : AHeap) (prot : Nat) (H : AHeap) (z0 : Int) (z1 : Int) (z4a : Option Addr) (z4n : Nat) (z4c : Nat) (z5m : Option Nat) (z6a : Option Addr) (z6n : Nat) (z6c : Nat) (z7 : Value) (z8a : Option Addr) (z8n : Nat) (z8c : Nat) (z9 : Int) (H2 : AHeap) (h1 : x9 < (↑x8n : Int)) (h2 : lpInf (lpOf cfg a27 1 prot H0) ([Value.int IntKind.i64 x0, Value.int IntKind.i64 x1, Value.slice x4a x4n x4c, Value.map x5m, Value.slice x6a x6n x6c, Value.slice x8a x8n x8c, Value.int IntKind.i64 x9, Value.int IntKind.i64 x0, Value.int IntKind.i64 0], H) = some (Ex.exit 2, [Value.int IntKind.i64 z0, Value.int IntKind.i64 z1, Value.slice z4a z4n z4c, Value.map z5m, Value.slice z6a z6n z6c, z7, Value.slice z8a z8n z8c, Value.int IntKind.i64 z9], H2)) (h3 : Fit IntKind.i64 (z9 + 1)) : lpOf cfg a27 0 prot H0 ([.int .i64 x0, .int .i64 x1, .slice x4a x4n x4c, .map x5m, .slice x6a x6n x6c, .slice x8a x8n x8c, .int .i64 x9], H) = some (Sum.inl ([Value.int IntKind.i64 z0, Value.int IntKind.i64 z1, Value.slice z4a z4n z4c, Value.map z5m, Value.slice z6a z6n z6c, Value.slice z8a z8n z8c, Value.int IntKind.i64 (z9 + 1)], H2)) :=
  lp_of [.e, .e, .b true, .lo (.exit 2, [.int .i64 z0, .int .i64 z1, .slice z4a z4n z4c, .map z5m, .slice z6a z6n z6c, z7, .slice z8a z8n z8c, .int .i64 z9], H2), .e] (fun e => (decide (x9 < (↑x8n : Int)) = true) ∧ (lpInf (lpOf cfg a27 1 prot H0) ([Value.int IntKind.i64 x0, Value.int IntKind.i64 x1, Value.slice x4a x4n x4c, Value.map x5m, Value.slice x6a x6n x6c, Value.slice x8a x8n x8c, Value.int IntKind.i64 x9, Value.int IntKind.i64 x0, Value.int IntKind.i64 0], H) = some (Ex.exit 2, [Value.int IntKind.i64 z0, Value.int IntKind.i64 z1, Value.slice z4a z4n z4c, Value.map z5m, Value.slice z6a z6n z6c, z7, Value.slice z8a z8n z8c, Value.int IntKind.i64 z9], H2)) ∧ (Fit IntKind.i64 (z9 + 1)) ∧ e) (by kernel_rfl) ⟨decide_eq_true h1, h2, h3, rfl⟩
theorem f27_L0_1 (x0 : Int) (x1 : Int) (x4a : Option Addr) (x4n : Nat) (x4c : Nat) (x5m : Option Nat) (x6a : Option Addr) (x6n : Nat) (x6c : Nat) (x8a : Option Addr) (x8n : Nat) (x8c : Nat) (x9 : Int) (H0 : AHeap) (prot : Nat) (H : AHeap) (z0 : Value) (z1 : Value) (z4a : Option Addr) (z4n : Nat) (z4c : Nat) (z5m : Option Nat) (z6a : Option Addr) (z6n : Nat) (z6c : Nat) (z7 : Int) (z8 : Value) (z9 : Value) (H2 : AHeap) (h1 : x9 < (↑x8n : Int)) (h2 : lpInf (lpOf cfg a27 1 prot H0) ([Value.int IntKind.i64 x0, Value.int IntKind.i64 x1, Value.slice x4a x4n x4c, Value.map x5m, Value.slice x6a x6n x6c, Value.slice x8a x8n x8c, Value.int IntKind.i64 x9, Value.int IntKind.i64 x0, Value.int IntKind.i64 0], H) = some (Ex.ret, [z0, z1, Value.slice z4a z4n z4c, Value.map z5m, Value.slice z6a z6n z6c, Value.int IntKind.i64 z7, z8, z9], H2)) : lpOf cfg a27 0 prot H0 ([.int .i64 x0, .int .i64 x1, .slice x4a x4n x4c, .map x5m, .slice x6a x6n x6c, .slice x8a x8n x8c, .int .i64 x9], H) = some (Sum.inr (Ex.ret, [Value.slice z4a z4n z4c, Value.map z5m, Value.slice z6a z6n z6c, Value.int IntKind.i64 z7], H2)) :=
  lp_of [.e, .e, .b true, .lo (.ret, [z0, z1, .slice z4a z4n z4c, .map z5m, .slice z6a z6n z6c, .int .i64 z7, z8, z9], H2)] (fun e => (decide (x9 < (↑x8n : Int)) = true) ∧ (lpInf (lpOf cfg a27 1 prot H0) ([Value.int IntKind.i64 x0, Value.int IntKind.i64 x1, Value.slice x4a x4n x4c, Value.map x5m, Value.slice x6a x6n x6c, Value.slice x8a x8n x8c, Value.int IntKind.i64 x9, Value.int IntKind.i64 x0, Value.int IntKind.i64 0], H) = some (Ex.ret, [z0, z1, Value.slice z4a z4n z4c, Value.map z5m, Value.slice z6a z6n z6c, Value.int IntKind.i64 z7, z8, z9], H2)) ∧ e) (by kernel_rfl) ⟨decide_eq_true h1, h2, rfl⟩
theorem f27_L0_2 (x0 : Int) (x1 : Int) (x4a : Option Addr) (x4n : Nat) (x4c : Nat) (x5m : Option Nat) (x6a : Option Addr) (x6n : Nat) (x6c : Nat) (x8a : Option Addr) (x8n : Nat) (x8c : Nat) (x9 : Int) (H0 : AHeap) (prot : Nat) (H : AHeap) (h1 : ¬(x9 < (↑x8n : Int))) : lpOf cfg a27 0 prot H0 ([.int .i64 x0, .int .i64 x1, .slice x4a x4n x4c, .map x5m, .slice x6a x6n x6c, .slice x8a x8n x8c, .int .i64 x9], H) = some (Sum.inr (Ex.exit 0, [Value.slice x4a x4n x4c, Value.map x5m, Value.slice x6a x6n x6c, Value.tuple { toList := [] }], H)) :=
  lp_of [.e, .e, .b false] (fun e => (decide (x9 < (↑x8n : Int)) = false) ∧ e) (by kernel_rfl) ⟨decide_eq_false h1, rfl⟩
theorem f27_L1_0 (x0 : Int) (x1 : Int) (x4a : Option Addr) (x4n : Nat) (x4c : Nat) (x5m : Option Nat) (x6a : Option Addr) (x6n : Nat) (x6c : Nat) (x8a : Option Addr) (x8n : Nat) (x8c : Nat) (x9 : Int) (x26 : Int) (x27 : Int) (H0 : AHeap) (prot : Nat) (H : AHeap) (x32p : Nat) (x32o : Nat) (x32l : Nat) (x33 : Array Value) (x37 : Array Value) (x11p : Nat) (x11o : Nat) (x11l : Nat) (H2 : AHeap) (H3 : AHeap) (x40 : Array Value) (x41a : Int) (x41b : Bool) (x73a : Option Addr) (x73n : Nat) (x73c : Nat) (H4 : AHeap) (h1 : x27 < x26) (h2 : aindexAddr cfg.P 74 (Value.slice x8a x8n x8c) (Value.int IntKind.i64 x9) = some (Value.pointer (some { block := x32p, off := x32o, spot := some x32l }))) (h3 : getCells H x32p x32l x32o 74 = some x33.toList) (h4 : callInf cfg 39 [Value.agg x33, Value.int IntKind.i64 x0, Value.int IntKind.i64 x1, Value.int IntKind.i64 x27] (List.length H0) H = some (Value.agg x37, H)) (h5 : aalloc cfg.P 65 H = some (Value.pointer (some { block := x11p, off := x11o, spot := some x11l }), H2)) (h6 : x37.toList.length = 74) (h7 : setCells H2 (List.length H0) x11p x11l x11o x37.toList = some H3) (h8 : getCells H3 x11p x11l x11o 74 = some x40.toList) (h9 : alookup cfg.P 53 (Value.map x5m) (Value.agg x40) true H3 = some (Value.tuple { toList := [Value.int IntKind.i64 x41a, Value.bool x41b] })) (h10 : (!x41b) = false) (h11 : aappend cfg.P (List.length H0) true 54 54 (Value.slice x6a x6n x6c) (Value.slice (some { block := List.length H3, off := 0, spot := some (1 * 1) }) 1 1) (H3 ++ [AObj.cells [Value.int IntKind.i64 x41a] 3 [Value.int IntKind.i64 x41a].length OMode.row]) = some (Value.slice x73a x73n x73c, H4)) (h12 : Fit IntKind.i64 (x27 + 1)) : lpOf cfg a27 1 prot H0 ([.int .i64 x0, .int .i64 x1, .slice x4a x4n x4c, .map x5m, .slice x6a x6n x6c, .slice x8a x8n x8c, .int .i64 x9, .int .i64 x26, .int .i64 x27], H) = some (Sum.inl ([Value.int IntKind.i64 x0, Value.int IntKind.i64 x1, Value.slice x4a x4n x4c, Value.map x5m, Value.slice x73a x73n x73c, Value.slice x8a x8n x8c, Value.int IntKind.i64 x9, Value.int IntKind.i64 x26, Value.int IntKind.i64 (x27 + 1)], H4)) :=
  lp_of [.e, .b true, .v (.pointer (some ⟨x32p, x32o, some x32l⟩)), .v (.agg x33), .v (.agg x37), .r (.pointer (some ⟨x11p, x11o, some x11l⟩)) H2, .h H3, .v (.agg x40), .v (.tuple #[.int .i64 x41a, .bool x41b]), .e, .b false, .e, .r (.slice x73a x73n x73c) H4, .e] (fun e => (decide (x27 < x26) = true) ∧ (aindexAddr cfg.P 74 (Value.slice x8a x8n x8c) (Value.int IntKind.i64 x9) = some (Value.pointer (some { block := x32p, off := x32o, spot := some x32l }))) ∧ (getCells H x32p x32l x32o 74 = some x33.toList) ∧ (callInf cfg 39 [Value.agg x33, Value.int IntKind.i64 x0, Value.int IntKind.i64 x1, Value.int IntKind.i64 x27] (List.length H0) H = some (Value.agg x37, H)) ∧ (aalloc cfg.P 65 H = some (Value.pointer (some { block := x11p, off := x11o, spot := some x11l }), H2)) ∧ (x37.toList.length = 74) ∧ (setCells H2 (List.length H0) x11p x11l x11o x37.toList = some H3) ∧ (getCells H3 x11p x11l x11o 74 = some x40.toList) ∧ (alookup cfg.P 53 (Value.map x5m) (Value.agg x40) true H3 = some (Value.tuple { toList := [Value.int IntKind.i64 x41a, Value.bool x41b] })) ∧ ((!x41b) = false) ∧ (aappend cfg.P (List.length H0) true 54 54 (Value.slice x6a x6n x6c) (Value.slice (some { block := List.length H3, off := 0, spot := some (1 * 1) }) 1 1) (H3 ++ [AObj.cells [Value.int IntKind.i64 x41a] 3 [Value.int IntKind.i64 x41a].length OMode.row]) = some (Value.slice x73a x73n x73c, H4)) ∧ (Fit IntKind.i64 (x27 + 1)) ∧ e) (by kernel_rfl) ⟨decide_eq_true h1, h2, h3, h4, h5, h6, h7, h8, h9, h10, h11, h12, rfl⟩
theorem f27_L1_1 (x0 : Int) (x1 : Int) (x4a : Option Addr) (x4n : Nat) (x4c : Nat) (x5m : Option Nat) (x6a : Option Addr) (x6n : Nat) (x6c : Nat) (x8a : Option Addr) (x8n : Nat) (x8c : Nat) (x9 : Int) (x26 : Int) (x27 : Int) (H0 : AHeap) (prot : Nat) (H : AHeap) (x32p : Nat) (x32o : Nat) (x32l : Nat) (x33 : Array Value) (x37 : Array Value) (x11p : Nat) (x11o : Nat) (x11l : Nat) (H2 : AHeap) (H3 : AHeap) (x40 : Array Value) (x41a : Int) (x41b : Bool) (h1 : x27 < x26) (h2 : aindexAddr cfg.P 74 (Value.slice x8a x8n x8c) (Value.int IntKind.i64 x9) = some (Value.pointer (some { block := x32p, off := x32o, spot := some x32l }))) (h3 : getCells H x32p x32l x32o 74 = some x33.toList) (h4 : callInf cfg 39 [Value.agg x33, Value.int IntKind.i64 x0, Value.int IntKind.i64 x1, Value.int IntKind.i64 x27] (List.length H0) H = some (Value.agg x37, H)) (h5 : aalloc cfg.P 65 H = some (Value.pointer (some { block := x11p, off := x11o, spot := some x11l }), H2)) (h6 : x37.toList.length = 74) (h7 : setCells H2 (List.length H0) x11p x11l x11o x37.toList = some H3) (h8 : getCells H3 x11p x11l x11o 74 = some x40.toList) (h9 : alookup cfg.P 53 (Value.map x5m) (Value.agg x40) true H3 = some (Value.tuple { toList := [Value.int IntKind.i64 x41a, Value.bool x41b] })) (h10 : (!x41b) = true) (h11 : ((↑x8n : Int) == 3000) = true) : lpOf cfg a27 1 prot H0 ([.int .i64 x0, .int .i64 x1, .slice x4a x4n x4c, .map x5m, .slice x6a x6n x6c, .slice x8a x8n x8c, .int .i64 x9, .int .i64 x26, .int .i64 x27], H) = some (Sum.inr (Ex.ret, [Value.int IntKind.i64 x0, Value.int IntKind.i64 x1, Value.slice none 0 0, Value.map none, Value.slice none 0 0, Value.int IntKind.i64 6, Value.slice x8a x8n x8c, Value.int IntKind.i64 x9], H3)) :=
  lp_of [.e, .b true, .v (.pointer (some ⟨x32p, x32o, some x32l⟩)), .v (.agg x33), .v (.agg x37), .r (.pointer (some ⟨x11p, x11o, some x11l⟩)) H2, .h H3, .v (.agg x40), .v (.tuple #[.int .i64 x41a, .bool x41b]), .e, .b true, .e, .e, .b true] (fun e => (decide (x27 < x26) = true) ∧ (aindexAddr cfg.P 74 (Value.slice x8a x8n x8c) (Value.int IntKind.i64 x9) = some (Value.pointer (some { block := x32p, off := x32o, spot := some x32l }))) ∧ (getCells H x32p x32l x32o 74 = some x33.toList) ∧ (callInf cfg 39 [Value.agg x33, Value.int IntKind.i64 x0, Value.int IntKind.i64 x1, Value.int IntKind.i64 x27] (List.length H0) H = some (Value.agg x37, H)) ∧ (aalloc cfg.P 65 H = some (Value.pointer (some { block := x11p, off := x11o, spot := some x11l }), H2)) ∧ (x37.toList.length = 74) ∧ (setCells H2 (List.length H0) x11p x11l x11o x37.toList = some H3) ∧ (getCells H3 x11p x11l x11o 74 = some x40.toList) ∧ (alookup cfg.P 53 (Value.map x5m) (Value.agg x40) true H3 = some (Value.tuple { toList := [Value.int IntKind.i64 x41a, Value.bool x41b] })) ∧ ((!x41b) = true) ∧ (((↑x8n : Int) == 3000) = true) ∧ e) (by kernel_rfl) ⟨decide_eq_true h1, h2, h3, h4, h5, h6, h7, h8, h9, h10, h11, rfl⟩
theorem f27_L1_2 (x0 : Int) (x1 : Int) (x4a : Option Addr) (x4n : Nat) (x4c : Nat) (x5m : Option Nat) (x6a : Option Addr) (x6n : Nat) (x6c : Nat) (x8a : Option Addr) (x8n : Nat) (x8c : Nat) (x9 : Int) (x26 : Int) (x27 : Int) (H0 : AHeap) (prot : Nat) (H : AHeap) (x32p : Nat) (x32o : Nat) (x32l : Nat) (x33 : Array Value) (x37 : Array Value) (x11p : Nat) (x11o : Nat) (x11l : Nat) (H2 : AHeap) (H3 : AHeap) (x40 : Array Value) (x41a : Int) (x41b : Bool) (x52 : Array Value) (H4 : AHeap) (x55 : Array Value) (x56a : Option Addr) (x56n : Nat) (x56c : Nat) (H5 : AHeap) (x57a : Option Addr) (x57n : Nat) (x57c : Nat) (H6 : AHeap) (x61p : Nat) (x61o : Nat) (x61l : Nat) (x62 : ByteArray) (x69a : Option Addr) (x69n : Nat) (x69c : Nat) (H7 : AHeap) (x73a : Option Addr) (x73n : Nat) (x73c : Nat) (H8 : AHeap) (h1 : x27 < x26) (h2 : aindexAddr cfg.P 74 (Value.slice x8a x8n x8c) (Value.int IntKind.i64 x9) = some (Value.pointer (some { block := x32p, off := x32o, spot := some x32l }))) (h3 : getCells H x32p x32l x32o 74 = some x33.toList) (h4 : callInf cfg 39 [Value.agg x33, Value.int IntKind.i64 x0, Value.int IntKind.i64 x1, Value.int IntKind.i64 x27] (List.length H0) H = some (Value.agg x37, H)) (h5 : aalloc cfg.P 65 H = some (Value.pointer (some { block := x11p, off := x11o, spot := some x11l }), H2)) (h6 : x37.toList.length = 74) (h7 : setCells H2 (List.length H0) x11p x11l x11o x37.toList = some H3) (h8 : getCells H3 x11p x11l x11o 74 = some x40.toList) (h9 : alookup cfg.P 53 (Value.map x5m) (Value.agg x40) true H3 = some (Value.tuple { toList := [Value.int IntKind.i64 x41a, Value.bool x41b] })) (h10 : (!x41b) = true) (h11 : ((↑x8n : Int) == 3000) = false) (h12 : getCells H3 x11p x11l x11o 74 = some x52.toList) (h13 : amapUpdate cfg.P (List.length H0) 53 (Value.map x5m) (Value.agg x52) (Value.int IntKind.i64 (↑x8n : Int)) H3 = some H4) (h14 : getCells H4 x11p x11l x11o 74 = some x55.toList) (h15 : abuildSlice cfg.P 74 1 [(0, Value.agg x55)] H4 = some (Value.slice x56a x56n x56c, H5)) (h16 : aappend cfg.P (List.length H0) true 74 74 (Value.slice x8a x8n x8c) (Value.slice x56a x56n x56c) H5 = some (Value.slice x57a x57n x57c, H6)) (h17 : aindexAddr cfg.P 22 (Value.slice x4a x4n x4c) (Value.int IntKind.i64 x9) = some (Value.pointer (some { block := x61p, off := x61o, spot := some x61l }))) (h18 : getCells H6 x61p x61l x61o 1 = some [Value.string x62]) (h19 : Fit IntKind.i64 (97 + x27)) (h20 : Fit IntKind.i32 (97 + x27)) (h21 : x62.size + (Utf8.encode (97 + x27)).size ≤ 9223372036854775807) (h22 : aappend cfg.P (List.length H0) true 22 22 (Value.slice x4a x4n x4c) (Value.slice (some { block := List.length H6, off := 0, spot := some (1 * 1) }) 1 1) (H6 ++ [AObj.cells [Value.string (x62 ++ Utf8.encode (97 + x27))] 9 [Value.string (x62 ++ Utf8.encode (97 + x27))].length OMode.row]) = some (Value.slice x69a x69n x69c, H7)) (h23 : aappend cfg.P (List.length H0) true 54 54 (Value.slice x6a x6n x6c) (Value.slice (some { block := List.length H7, off := 0, spot := some (1 * 1) }) 1 1) (H7 ++ [AObj.cells [Value.int IntKind.i64 (↑x8n : Int)] 3 [Value.int IntKind.i64 (↑x8n : Int)].length OMode.row]) = some (Value.slice x73a x73n x73c, H8)) (h24 : Fit IntKind.i64 (x27 + 1)) : lpOf cfg a27 1 prot H0 ([.int .i64 x0, .int .i64 x1, .slice x4a x4n x4c, .map x5m, .slice x6a x6n x6c, .slice x8a x8n x8c, .int .i64 x9, .int .i64 x26, .int .i64 x27], H) = some (Sum.inl ([Value.int IntKind.i64 x0, Value.int IntKind.i64 x1, Value.slice x69a x69n x69c, Value.map x5m, Value.slice x73a x73n x73c, Value.slice x57a x57n x57c, Value.int IntKind.i64 x9, Value.int IntKind.i64 x26, Value.int IntKind.i64 (x27 + 1)], H8)) :=
  lp_of [.e, .b true, .v (.pointer (some ⟨x32p, x32o, some x32l⟩)), .v (.agg x33), .v (.agg x37), .r (.pointer (some ⟨x11p, x11o, some x11l⟩)) H2, .h H3, .v (.agg x40), .v (.tuple #[.int .i64 x41a, .bool x41b]), .e, .b true, .e, .e, .b false, .e, .v (.agg x52), .h H4, .v (.agg x55), .r (.slice x56a x56n x56c) H5, .r (.slice x57a x57n x57c) H6, .v (.pointer (some ⟨x61p, x61o, some x61l⟩)), .v (.string x62), .e, .e, .e, .e, .e, .r (.slice x69a x69n x69c) H7, .e, .r (.slice x73a x73n x73c) H8, .e] (fun e => (decide (x27 < x26) = true) ∧ (aindexAddr cfg.P 74 (Value.slice x8a x8n x8c) (Value.int IntKind.i64 x9) = some (Value.pointer (some { block := x32p, off := x32o, spot := some x32l }))) ∧ (getCells H x32p x32l x32o 74 = some x33.toList) ∧ (callInf cfg 39 [Value.agg x33, Value.int IntKind.i64 x0, Value.int IntKind.i64 x1, Value.int IntKind.i64 x27] (List.length H0) H = some (Value.agg x37, H)) ∧ (aalloc cfg.P 65 H = some (Value.pointer (some { block := x11p, off := x11o, spot := some x11l }), H2)) ∧ (x37.toList.length = 74) ∧ (setCells H2 (List.length H0) x11p x11l x11o x37.toList = some H3) ∧ (getCells H3 x11p x11l x11o 74 = some x40.toList) ∧ (alookup cfg.P 53 (Value.map x5m) (Value.agg x40) true H3 = some (Value.tuple { toList := [Value.int IntKind.i64 x41a, Value.bool x41b] })) ∧ ((!x41b) = true) ∧ (((↑x8n : Int) == 3000) = false) ∧ (getCells H3 x11p x11l x11o 74 = some x52.toList) ∧ (amapUpdate cfg.P (List.length H0) 53 (Value.map x5m) (Value.agg x52) (Value.int IntKind.i64 (↑x8n : Int)) H3 = some H4) ∧ (getCells H4 x11p x11l x11o 74 = some x55.toList) ∧ (abuildSlice cfg.P 74 1 [(0, Value.agg x55)] H4 = some (Value.slice x56a x56n x56c, H5)) ∧ (aappend cfg.P (List.length H0) true 74 74 (Value.slice x8a x8n x8c) (Value.slice x56a x56n x56c) H5 = some (Value.slice x57a x57n x57c, H6)) ∧ (aindexAddr cfg.P 22 (Value.slice x4a x4n x4c) (Value.int IntKind.i64 x9) = some (Value.pointer (some { block := x61p, off := x61o, spot := some x61l }))) ∧ (getCells H6 x61p x61l x61o 1 = some [Value.string x62]) ∧ (Fit IntKind.i64 (97 + x27)) ∧ (Fit IntKind.i32 (97 + x27)) ∧ (x62.size + (Utf8.encode (97 + x27)).size ≤ 9223372036854775807) ∧ (aappend cfg.P (List.length H0) true 22 22 (Value.slice x4a x4n x4c) (Value.slice (some { block := List.length H6, off := 0, spot := some (1 * 1) }) 1 1) (H6 ++ [AObj.cells [Value.string (x62 ++ Utf8.encode (97 + x27))] 9 [Value.string (x62 ++ Utf8.encode (97 + x27))].length OMode.row]) = some (Value.slice x69a x69n x69c, H7)) ∧ (aappend cfg.P (List.length H0) true 54 54 (Value.slice x6a x6n x6c) (Value.slice (some { block := List.length H7, off := 0, spot := some (1 * 1) }) 1 1) (H7 ++ [AObj.cells [Value.int IntKind.i64 (↑x8n : Int)] 3 [Value.int IntKind.i64 (↑x8n : Int)].length OMode.row]) = some (Value.slice x73a x73n x73c, H8)) ∧ (Fit IntKind.i64 (x27 + 1)) ∧ e) (by kernel_rfl) ⟨decide_eq_true h1, h2, h3, h4, h5, h6, h7, h8, h9, h10, h11, h12, h13, h14, h15, h16, h17, h18, h19, h20, h21, h22, h23, h24, rfl⟩
theorem f27_L1_3 (x0 : Int) (x1 : Int) (x4a : Option Addr) (x4n : Nat) (x4c : Nat) (x5m : Option Nat) (x6a : Option Addr) (x6n : Nat) (x6c : Nat) (x8a : Option Addr) (x8n : Nat) (x8c : Nat) (x9 : Int) (x26 : Int) (x27 : Int) (H0 : AHeap) (prot : Nat) (H : AHeap) (h1 : ¬(x27 < x26)) : lpOf cfg a27 1 prot H0 ([.int .i64 x0, .int .i64 x1, .slice x4a x4n x4c, .map x5m, .slice x6a x6n x6c, .slice x8a x8n x8c, .int .i64 x9, .int .i64 x26, .int .i64 x27], H) = some (Sum.inr (Ex.exit 2, [Value.int IntKind.i64 x0, Value.int IntKind.i64 x1, Value.slice x4a x4n x4c, Value.map x5m, Value.slice x6a x6n x6c, Value.tuple { toList := [] }, Value.slice x8a x8n x8c, Value.int IntKind.i64 x9], H)) :=
  lp_of [.e, .b false] (fun e => (decide (x27 < x26) = false) ∧ e) (by kernel_rfl) ⟨decide_eq_false h1, rfl⟩
end Go.Proofs.Ytedfombojnfbiaa.Am24
namespace Go.Proofs.Ytedfombojnfbiaa.Am24
open Go Go.Proofs.Ytedfombojnfbiaa.Am

theorem T54 : ElemT cfg.P 54 3 1 8 := ⟨by kernel_rfl, by kernel_rfl, by kernel_rfl, ⟨.int .i64 0, by kernel_rfl, rfl⟩, by kernel_rfl, by omega, by omega⟩
theorem T74 : ElemT cfg.P 74 65 74 592 := ⟨by kernel_rfl, by kernel_rfl, by kernel_rfl, ⟨kval (List.replicate 74 0), by kernel_rfl, rfl⟩, by kernel_rfl, by omega, by omega⟩

def ents (ks : List (List Nat)) : List (Value × Value) := ks.mapIdx fun i ws => (kval ws, Value.int .i64 (i : Int))
theorem ents_snoc (ks : List (List Nat)) (y : List Nat) : ents (ks ++ [y]) = ents ks ++ [(kval y, .int .i64 (ks.length : Int))] := by
  unfold ents
  rw [List.mapIdx_append]
  simp
theorem ents_get {ks : List (List Nat)} {i : Nat} (h : i < ks.length) : (ents ks)[i]? = some (kval ks[i], .int .i64 (i : Int)) := by
  unfold ents
  simp [h]
def ki (ws : List Nat) : List Int := ws.map fun (n : Nat) => (n : Int)
theorem keyV_ki (ws : List Nat) : keyV .u64 (ki ws) = kval ws := by
  unfold keyV ki kval kc
  rw [List.map_map]
  rfl
theorem ki_inj {a b : List Nat} : ki a = ki b ↔ a = b := by
  unfold ki
  constructor
  · intro h
    have h2 := congrArg (List.map Int.toNat) h
    rw [List.map_map, List.map_map] at h2
    have e : (Int.toNat ∘ fun (n : Nat) => (n : Int)) = id := by funext n; simp
    rw [e, List.map_id, List.map_id] at h2
    exact h2
  · intro h; rw [h]
def kix (y : List Nat) (ks : List (List Nat)) : Option Nat := ks.findIdx? fun u => decide (y = u)
theorem kidx_ki (y : List Nat) (ks : List (List Nat)) : kidx (ki y) (ks.map ki) = kix y ks := by
  unfold kidx kix
  rw [List.findIdx?_map]
  congr 1
  funext u
  simp only [Function.comp_apply, ki_inj]

theorem u65 : cfg.P.underlying 65 = some (.array 74 63) := by kernel_rfl
theorem u63 : cfg.P.underlying 63 = some (.int .u64) := by kernel_rfl
theorem s63 : apure cfg.P (sizeOf 63) = some 1 := by kernel_rfl
theorem tm53 : tmap cfg.P 53 = some (65, 3) := by kernel_rfl
theorem z3 : tzero cfg.P 3 = some (.int .i64 0) := by kernel_rfl

theorem find_k {ks : List (List Nat)} (hk : ∀ y ∈ ks, KOK y) {y : List Nat} (hy : KOK y) : afind cfg.P 65 (kval y) (ents ks) = some (kix y ks) := by
  rw [← keyV_ki, ← kidx_ki]
  refine afind_arr u65 u63 s63 (ki y) (by simp [ki, hy.1]) (ks.map ki) (ents ks) ?_ ?_
  · unfold ents
    rw [List.map_map]
    have : (Function.comp (keyV .u64) ki) = kval := by funext u; exact keyV_ki u
    rw [this]
    apply List.ext_getElem <;> simp
  · intro z hz
    obtain ⟨u, hu, rfl⟩ := List.mem_map.1 hz
    simp [ki, (hk u hu).1]
theorem check_k {y : List Nat} (hy : KOK y) (emp : Bool) : apure cfg.P (Instr.checkKey emp 10000 65 (kval y)) = some () := by
  rw [← keyV_ki]
  exact apure_check_arr u65 u63 s63 emp 9998 (ki y) (by simp [ki, hy.1])
theorem kval_plain1 (y : List Nat) : plain1 (kval y) = true := by
  unfold plain1 kval
  exact kplain y

theorem look_k {ks : List (List Nat)} (hk : ∀ y ∈ ks, KOK y) {y : List Nat} (hy : KOK y) {H : AHeap} {om : Nat} (hm : H[om]? = some (.map (ents ks))) :
    alookup cfg.P 53 (.map (some om)) (kval y) true H = some (.tuple #[.int .i64 (((kix y ks).getD 0 : Nat) : Int), .bool (kix y ks).isSome]) := by
  unfold alookup
  rw [tm53, Option.bind_some]
  have ho : amapOf (.map (some om)) H = some (ents ks) := by unfold amapOf; simp only; rw [hm]
  rw [ho, Option.bind_some, if_pos (kval_plain1 y)]
  simp only
  rw [check_k hy, Option.bind_some, find_k hk hy, Option.bind_some, z3, Option.bind_some]
  rw [if_pos (by rfl)]
  simp only [if_true]
  cases h : kix y ks with
  | none => rfl
  | some i =>
    have hi : i < ks.length := by
      unfold kix at h
      exact (List.findIdx?_eq_some_iff_getElem.1 h).1
    simp [ents_get hi]
theorem upd_k {ks : List (List Nat)} (hk : ∀ y ∈ ks, KOK y) {y : List Nat} (hy : KOK y) {H : AHeap} {om prot : Nat} (hp : prot ≤ om) (hm : H[om]? = some (.map (ents ks))) (hn : kix y ks = none) :
    amapUpdate cfg.P prot 53 (.map (some om)) (kval y) (.int .i64 (ks.length : Int)) H = some (H.set om (.map (ents (ks ++ [y])))) := by
  unfold amapUpdate
  simp only
  rw [hm]
  simp only
  rw [tm53, Option.bind_some, if_pos ⟨kval_plain1 y, hp⟩]
  simp only
  rw [check_k hy, Option.bind_some, find_k hk hy, hn, Option.bind_some]
  simp only
  rw [ents_snoc]
end Go.Proofs.Ytedfombojnfbiaa.Am24
namespace Go.Proofs.Ytedfombojnfbiaa.Am24
open Go Go.Proofs.Ytedfombojnfbiaa.Am

def ic (l : List Nat) : List Value := l.map fun (n : Nat) => Value.int .i64 (n : Int)
def kcs (k n : Nat) (ws : List ByteArray) : List Value := (ws.map (kindOf k n)).flatMap kc
theorem kcs_len (k n : Nat) : ∀ ws, (kcs k n ws).length = ws.length * 74
  | [] => rfl
  | w :: ws => by
    have := kcs_len k n ws
    unfold kcs at this ⊢
    simp only [List.map_cons, List.flatMap_cons, List.length_append, kc_len, (kindOf_ok k n w).1, this, List.length_cons]
    omega
theorem kcs_get (k n : Nat) : ∀ (ws : List ByteArray) (i : Nat) (h : i < ws.length), ((kcs k n ws).drop (i * 74 + 0)).take 74 = kc (kindOf k n ws[i])
  | [], i, h => by simp at h
  | w :: ws, 0, h => by
    unfold kcs
    simp only [List.map_cons, List.flatMap_cons, Nat.zero_mul, List.drop_zero, List.getElem_cons_zero, Nat.add_zero]
    rw [List.take_append_of_le_length (by rw [kc_len, (kindOf_ok k n w).1]; omega), List.take_of_length_le (by rw [kc_len, (kindOf_ok k n w).1]; omega)]
  | w :: ws, i + 1, h => by
    have ih := kcs_get k n ws i (by simpa using h)
    unfold kcs at ih ⊢
    simp only [List.map_cons, List.flatMap_cons, List.getElem_cons_succ, Nat.add_zero] at ih ⊢
    have e : (i + 1) * 74 = (kc (kindOf k n w)).length + i * 74 := by rw [kc_len, (kindOf_ok k n w).1]; omega
    rw [e, List.drop_append]
    have e2 : (kc (kindOf k n w)).length + i * 74 - (kc (kindOf k n w)).length = i * 74 := by omega
    rw [e2, List.drop_of_length_le (by omega), List.nil_append]
    exact ih
theorem kcs_snoc (k n : Nat) (ws : List ByteArray) (w : ByteArray) : kcs k n (ws ++ [w]) = kcs k n ws ++ kc (kindOf k n w) := by
  unfold kcs
  simp

structure Inv (k n : Nat) (H0 H : AHeap) (ws : List ByteArray) (nx : List Nat) (x4 x6 x8 : Value) (o4 om : Nat) (o6 : Option Nat) (o8 : Nat) : Prop where
  w : Own H 9 1 x4 (some o4) ws.length (sc ws)
  m : H[om]? = some (.map (ents (ws.map (kindOf k n))))
  x : Own H 3 1 x6 o6 nx.length (ic nx)
  l : Own H 65 74 x8 (some o8) ws.length (kcs k n ws)
  b4 : H0.length ≤ o4
  bm : H0.length ≤ om
  b8 : H0.length ≤ o8
  b6 : ∀ id, o6 = some id → H0.length ≤ id ∧ id ≠ o4 ∧ id ≠ om ∧ id ≠ o8
  d1 : o4 ≠ om
  d2 : o4 ≠ o8
  d3 : om ≠ o8
  st : Stay none H0 H

theorem enc_0 : Utf8.encode (97 + ((0 : Nat) : Int)) = strOf [97 + 0] := by kernel_rfl
theorem enc_1 : Utf8.encode (97 + ((1 : Nat) : Int)) = strOf [97 + 1] := by kernel_rfl
theorem enc_2 : Utf8.encode (97 + ((2 : Nat) : Int)) = strOf [97 + 2] := by kernel_rfl
theorem enc_3 : Utf8.encode (97 + ((3 : Nat) : Int)) = strOf [97 + 3] := by kernel_rfl
theorem enc_4 : Utf8.encode (97 + ((4 : Nat) : Int)) = strOf [97 + 4] := by kernel_rfl
theorem enc_5 : Utf8.encode (97 + ((5 : Nat) : Int)) = strOf [97 + 5] := by kernel_rfl
theorem enc_6 : Utf8.encode (97 + ((6 : Nat) : Int)) = strOf [97 + 6] := by kernel_rfl
theorem enc_7 : Utf8.encode (97 + ((7 : Nat) : Int)) = strOf [97 + 7] := by kernel_rfl
theorem enc_low {l : Nat} (h : l < 8) : Utf8.encode (97 + (l : Int)) = strOf [97 + l] := by
  have : l = 0 ∨ l = 1 ∨ l = 2 ∨ l = 3 ∨ l = 4 ∨ l = 5 ∨ l = 6 ∨ l = 7 := by omega
  rcases this with rfl | rfl | rfl | rfl | rfl | rfl | rfl | rfl
  · exact enc_0
  · exact enc_1
  · exact enc_2
  · exact enc_3
  · exact enc_4
  · exact enc_5
  · exact enc_6
  · exact enc_7

theorem findC_kix {k n : Nat} (hk1 : 1 ≤ k) (hk : k ≤ 8) (hn : n ≤ 4) {ws : List ByteArray} (hw : ∀ w ∈ ws, Wd k w) {w : ByteArray} (hv : Wd k w) :
    kix (kindOf k n w) (ws.map (kindOf k n)) = findC k (sho k (n + 1)) ws w := by
  unfold kix findC
  rw [List.findIdx?_map]
  have : ∀ l : List ByteArray, (∀ u ∈ l, Wd k u) → l.findIdx? ((fun u => decide (kindOf k n w = u)) ∘ kindOf k n) = l.findIdx? fun u => (dif k u w (sho k (n + 1)) 0).isNone := by
    intro l
    induction l with
    | nil => intro _; rfl
    | cons u l ih =>
      intro h
      rw [List.findIdx?_cons, List.findIdx?_cons, ih (fun z hz => h z (List.mem_cons_of_mem _ hz))]
      have e : ((fun u => decide (kindOf k n w = u)) ∘ kindOf k n) u = (dif k u w (sho k (n + 1)) 0).isNone := by
        have h2 := kind_eq hk1 hk hn (h u List.mem_cons_self) hv
        simp only [Function.comp_apply]
        cases hd : dif k u w (sho k (n + 1)) 0 with
        | none => rw [hd] at h2; rw [decide_eq_true (h2.2 rfl).symm]; rfl
        | some j => rw [hd] at h2; rw [decide_eq_false (fun e => by have := h2.1 e.symm; cases this)]; rfl
      rw [e]
  exact this ws hw

theorem ic_snoc (nx : List Nat) (j : Nat) : ic (nx ++ [j]) = ic nx ++ [.int .i64 (j : Int)] := by simp [ic]

/-- Of one letter: what the round does to memory ahead of the look-up. -/
theorem ahead (H : AHeap) (y : List Nat) (hy : KOK y) (prot : Nat) (hp : prot ≤ H.length) :
    ∃ H3, setCells (H ++ [kobj (List.replicate 74 0)]) prot H.length 74 0 (kc y) = some H3 ∧ H3[H.length]? = some (kobj y) ∧ Stay none H H3 ∧ H3.length = H.length + 1 := by
  have g1 : (H ++ [kobj (List.replicate 74 0)])[H.length]? = some (kobj (List.replicate 74 0)) := append_get.1
  refine ⟨_, kset_all zeroOK hy g1 hp, get_set_self g1, ⟨by simp, fun q hq _ => ?_⟩, by simp⟩
  rw [get_set_ne (by omega), List.getElem?_append_left hq]
theorem upd_ex {ks : List (List Nat)} (hk : ∀ y ∈ ks, KOK y) {y : List Nat} (hy : KOK y) {H : AHeap} {om prot : Nat} (hp : prot ≤ om) (hm : H[om]? = some (.map (ents ks))) (hn : kix y ks = none) :
    ∃ H4, amapUpdate cfg.P prot 53 (.map (some om)) (kval y) (.int .i64 (ks.length : Int)) H = some H4 ∧ H4[om]? = some (.map (ents (ks ++ [y]))) ∧ Stay (some om) H H4 ∧ H4.length = H.length :=
  ⟨_, upd_k hk hy hp hm hn, List.getElem?_set_self (List.getElem?_eq_some_iff.1 hm).1, ⟨by simp, fun q _ hq => List.getElem?_set_ne (fun e => hq (by rw [e]))⟩, by simp⟩
end Go.Proofs.Ytedfombojnfbiaa.Am24
namespace Go.Proofs.Ytedfombojnfbiaa.Am24
open Go Go.Proofs.Ytedfombojnfbiaa.Am

theorem abuild74 (H : AHeap) {y : List Nat} (hy : KOK y) : abuildSlice cfg.P 74 1 [(0, kval y)] H = some (.slice (some ⟨H.length, 0, some (1 * 74)⟩) 1 1, H ++ [.cells (kc y) 65 (kc y).length .row]) := by
  unfold abuildSlice
  have h1 : tslice cfg.P 74 = some 65 := by kernel_rfl
  have h2 : tsize cfg.P 65 = some 74 := by kernel_rfl
  have h3 : tzero cfg.P 65 = some (kval (List.replicate 74 0)) := by kernel_rfl
  rw [h1, Option.bind_some, h2, Option.bind_some]
  rw [if_neg (by omega), if_neg (by omega), h3, Option.bind_some]
  have hc : ∀ ws, cellsOf (kval ws) = kc ws := fun ws => rfl
  rw [hc, if_pos ⟨kplain _, by rw [kc_len]; rfl⟩]
  have hr : repCells (kc (List.replicate 74 0)) 1 = kc (List.replicate 74 0) := by simp [repCells]
  rw [hr]
  unfold afill
  simp only
  rw [hc, if_pos ⟨by rw [kc_len, hy.1], kcell y, by rw [kc_len, kc_len, hy.1]; simp⟩]
  unfold afill
  have hp : putList (kc (List.replicate 74 0)) (0 * 74) (kc y) = kc y := by
    unfold putList
    rw [kc_len, hy.1]
    simp [kc]
  rw [hp]
  rfl

theorem loop27i {k n : Nat} (hk1 : 1 ≤ k) (hk : k ≤ 8) (hn : n ≤ 4) (H0 : AHeap) (prot : Nat) (o4 om o8 i : Nat) : ∀ (d l : Nat) (ws : List ByteArray) (nx : List Nat) (x4 x6 x8 : Value) (o6 : Option Nat) (H : AHeap), l + d = k → i < ws.length → WsOK k ws → nx.length = i * k + l →
    Inv k n H0 H ws nx x4 x6 x8 o4 om o6 o8 →
    match clsIn k (sho k (n + 1)) i d l ws nx with
    | some r => ∃ a4 c4 a6 n6 c6 a8 c8 o6' H', lpInf (lpOf cfg a27 1 prot H0) ([.int .i64 k, .int .i64 n, x4, .map (some om), x6, x8, .int .i64 i, .int .i64 k, .int .i64 l], H) = some (.exit 2, [.int .i64 k, .int .i64 n, .slice a4 r.1.length c4, .map (some om), .slice a6 n6 c6, .tuple #[], .slice a8 r.1.length c8, .int .i64 i], H') ∧
        Inv k n H0 H' r.1 r.2 (.slice a4 r.1.length c4) (.slice a6 n6 c6) (.slice a8 r.1.length c8) o4 om o6' o8 ∧ WsOK k r.1 ∧ i < r.1.length ∧ r.2.length = i * k + k
    | none => ∃ z8 H', lpInf (lpOf cfg a27 1 prot H0) ([.int .i64 k, .int .i64 n, x4, .map (some om), x6, x8, .int .i64 i, .int .i64 k, .int .i64 l], H) = some (.ret, [.int .i64 k, .int .i64 n, .slice none 0 0, .map none, .slice none 0 0, .int .i64 6, z8, .int .i64 i], H')
  | 0, l, ws, nx, x4, x6, x8, o6, H, hl, hi, hw, hnx, hv => by
    obtain ⟨a4, c4, rfl⟩ := hv.w.len
    obtain ⟨a6, c6, rfl⟩ := hv.x.len
    obtain ⟨a8, c8, rfl⟩ := hv.l.len
    have : l = k := by omega
    subst this
    simp only [clsIn]
    exact ⟨a4, c4, a6, _, c6, a8, c8, o6, H, lp_last (f27_L1_3 l n a4 _ c4 (some om) a6 _ c6 a8 _ c8 i l l H0 prot H (by omega)), hv, hw, hi, hnx⟩
  | d + 1, l, ws, nx, x4, x6, x8, o6, H, hl, hi, hw, hnx, hv => by
    obtain ⟨a4, c4, rfl⟩ := hv.w.len
    obtain ⟨a6, c6, rfl⟩ := hv.x.len
    obtain ⟨a8, c8, rfl⟩ := hv.l.len
    have hlk : l < k := by omega
    have hlen := hw.le
    have hsl := Nat.mul_le_mul (show i ≤ 3000 by omega) hk
    have hgd : ws.getD i ⟨#[]⟩ = ws[i] := by simp [List.getD_eq_getElem?_getD, List.getElem?_eq_getElem hi]
    have hwi : Wd k ws[i] := hw.wd _ (List.getElem_mem hi)
    let v := ext1 ws[i] l
    have hwv : Wd k v := wd_ext1 hk hwi hlk
    let y := kindOf k n v
    have hy : KOK y := kindOf_ok k n v
    have hys : withK k n l (kindOf k n ws[i]) = y := (kind_ext1 (by omega)).symm
    have hH0 : H0.length ≤ H.length := hv.st.1
    obtain ⟨id8, hid8, g1, g2⟩ := own_atS T74 hv.l hi
    cases hid8
    have g3 := g2 0 74 (by omega)
    rw [kcs_get k n ws i hi] at g3
    have g4 := c39 hk hn hlk (kindOf_ok k n ws[i]) H0.length H
    rw [hys] at g4
    obtain ⟨H3, p1, p2, p3, l3⟩ := ahead H y hy H0.length hH0
    have g8 : getCells H3 H.length 74 0 74 = some (kc y) := kget_all hy p2
    have m3 : H3[om]? = some (.map (ents (ws.map (kindOf k n)))) := by
      rw [p3.2 om (List.getElem?_eq_some_iff.1 hv.m).1 (by simp)]; exact hv.m
    have hks : ∀ z ∈ ws.map (kindOf k n), KOK z := fun z hz => by
      obtain ⟨u, _, rfl⟩ := List.mem_map.1 hz
      exact kindOf_ok k n u
    have g9 := look_k hks hy m3
    rw [show kix y (ws.map (kindOf k n)) = findC k (sho k (n + 1)) ws v from findC_kix hk1 hk hn hw.wd hwv] at g9
    have hlenk : ∀ z, KOK z → (kc z).toArray.toList.length = 74 := fun z h => by show (kc z).length = 74; rw [kc_len, h.1]
    have w3 := hv.w.stay p3 (fun _ _ h => by cases h)
    have x3 := hv.x.stay p3 (fun _ _ h => by cases h)
    have l3o := hv.l.stay p3 (fun _ _ h => by cases h)
    have st3 : Stay none H0 H3 := hv.st.over p3 (fun _ h => by cases h)
    have xlt : ∀ id, o6 = some id → id < H.length := fun id h => by
      have := hv.x.2
      rw [h] at this
      exact (List.getElem?_eq_some_iff.1 this.2.2.choose_spec.2).1
    have lt4 : o4 < H.length := (List.getElem?_eq_some_iff.1 hv.w.2.2.2.choose_spec.2).1
    have lt8 : o8 < H.length := (List.getElem?_eq_some_iff.1 hv.l.2.2.2.choose_spec.2).1
    have ltm : om < H.length := (List.getElem?_eq_some_iff.1 hv.m).1
    simp only [clsIn]
    rw [hgd, show ext1 ws[i] l = v from rfl]
    cases hf : findC k (sho k (n + 1)) ws v with
    | some j =>
      simp only
      rw [hf] at g9
      obtain ⟨a6', c6', o6', H4, q1, q2, q3, q4, q5, q6⟩ := own_app T54 x3 (ecs := [.int .i64 (j : Int)]) rfl rfl (prot := H0.length) (room := true) (fun id h => (hv.b6 id h).1) (by omega) (by omega) (L := 1 * 1) rfl (el := [Value.int .i64 (j : Int)].length) rfl
      have step := f27_L1_0 k n a4 ws.length c4 (some om) a6 nx.length c6 a8 ws.length c8 i k l H0 prot H o8 (i * 74) (kcs k n ws).length (kc (kindOf k n ws[i])).toArray (kc y).toArray H.length 0 74 _ H3 (kc y).toArray (j : Int) true a6' _ c6' H4 (by omega) g1 g3 g4 (alloc65 H) (hlenk y hy) p1 g8 g9 rfl q1 (fit64 (by omega) (by omega))
      have inv' : Inv k n H0 H4 ws (nx ++ [j]) (.slice a4 ws.length c4) (.slice a6' (nx.length + 1) c6') (.slice a8 ws.length c8) o4 om (some o6') o8 := by
        have hne : ∀ q, (q = o4 ∨ q = om ∨ q = o8) → q ≠ o6' ∧ ¬ o6 = some q := fun q hq => by
          constructor
          · intro e
            cases ho : o6 with
            | none => have := q5 ho; rcases hq with h | h | h <;> omega
            | some id =>
              have h1 := q6 id ho
              have h2 := hv.b6 id ho
              rcases hq with h | h | h <;> omega
          · intro e
            have h2 := hv.b6 q e
            rcases hq with h | h | h <;> omega
        refine ⟨w3.stay q3 (fun id h e => ?_), ?_, by simpa [ic_snoc] using q2, l3o.stay q3 (fun id h e => ?_), hv.b4, hv.bm, hv.b8, fun id h => ?_, hv.d1, hv.d2, hv.d3, st3.over q3 (fun id h => (hv.b6 id h).1)⟩
        · cases h; exact (hne o4 (.inl rfl)).2 e
        · rw [q3.2 om (by omega) (hne om (.inr (.inl rfl))).2]; exact m3
        · cases h; exact (hne o8 (.inr (.inr rfl))).2 e
        · cases h
          exact ⟨q4, fun e => (hne o4 (.inl rfl)).1 e.symm, fun e => (hne om (.inr (.inl rfl))).1 e.symm, fun e => (hne o8 (.inr (.inr rfl))).1 e.symm⟩
      have ih := loop27i hk1 hk hn H0 prot o4 om o8 i d (l + 1) ws (nx ++ [j]) _ _ _ (some o6') H4 (by omega) hi hw (by simp; omega) inv'
      revert ih
      cases clsIn k (sho k (n + 1)) i d (l + 1) ws (nx ++ [j]) with
      | some r =>
        rintro ⟨a, c, a1, n1, c1, a2, c2, o, H', h1, h2⟩
        exact ⟨a, c, a1, n1, c1, a2, c2, o, H', lp_next step h1, h2⟩
      | none =>
        rintro ⟨z, H', h1⟩
        exact ⟨z, H', lp_next step h1⟩
    | none =>
      simp only
      rw [hf] at g9
      by_cases h3 : ws.length = 3000
      · rw [if_pos h3]
        exact ⟨_, H3, lp_last (f27_L1_1 k n a4 ws.length c4 (some om) a6 nx.length c6 a8 ws.length c8 i k l H0 prot H o8 (i * 74) (kcs k n ws).length (kc (kindOf k n ws[i])).toArray (kc y).toArray H.length 0 74 _ H3 (kc y).toArray 0 false (by omega) g1 g3 g4 (alloc65 H) (hlenk y hy) p1 g8 g9 rfl (by rw [h3]; rfl))⟩
      · rw [if_neg h3]
        have hkn : kix y (ws.map (kindOf k n)) = none := by rw [show kix y (ws.map (kindOf k n)) = findC k (sho k (n + 1)) ws v from findC_kix hk1 hk hn hw.wd hwv]; exact hf
        obtain ⟨H4, up, m4, s4, l4⟩ := upd_ex hks hy hv.bm m3 hkn
        rw [List.length_map] at up
        have y4 : H4[H.length]? = some (kobj y) := by rw [s4.2 H.length (by omega) (fun e => by cases e; omega)]; exact p2
        have g14 : getCells H4 H.length 74 0 74 = some (kc y) := kget_all hy y4
        have w4 := w3.stay s4 (fun id h e => by cases h; cases e; exact hv.d1 rfl)
        have x4' := x3.stay s4 (fun id h e => (hv.b6 id h).2.2.1 (Option.some.inj e).symm)
        have l4o := l3o.stay s4 (fun id h e => by cases h; cases e; exact hv.d3 rfl)
        -- the list of kinds grows
        obtain ⟨a8', c8', o8', H6, r1, r2, r3, r4, r5, r6⟩ := own_app T74 l4o (ecs := kc y) (by rw [kc_len, hy.1]) (kcell y) (prot := H0.length) (room := true) (fun id h => by cases h; exact hv.b8) (by omega) (by omega) (L := 1 * 74) rfl (el := (kc y).length) rfl
        have e8 : o8' = o8 := r6 o8 rfl
        subst e8
        have l6 : H.length + 1 ≤ H6.length := by have := r3.1; omega
        have w6 := w4.stay r3 (fun id h e => by cases h; cases e; exact hv.d2 rfl)
        have x6' := x4'.stay r3 (fun id h e => (hv.b6 id h).2.2.2 (Option.some.inj e).symm)
        have m6 : H6[om]? = some (.map (ents (ws.map (kindOf k n) ++ [y]))) := by rw [r3.2 om (by omega) (fun e => by cases e; exact hv.d3 rfl)]; exact m4
        -- the word
        obtain ⟨id4, hid4, t1, t2⟩ := own_at T22 w6 (sc_get (List.getElem?_eq_getElem hi))
        cases hid4
        obtain ⟨a4', c4', o4', H7, v1, v2, v3, v4, v5, v6⟩ := own_app T22 w6 (ecs := [.string v]) rfl rfl (prot := H0.length) (room := true) (fun id h => by cases h; exact hv.b4) (by omega) (by omega) (L := 1 * 1) rfl (el := [Value.string v].length) rfl
        have e4 : o4' = o4 := v6 o4 rfl
        subst e4
        have l7 : H.length + 1 ≤ H7.length := by have := v3.1; omega
        have x7 := x6'.stay v3 (fun id h e => (hv.b6 id h).2.1 (Option.some.inj e).symm)
        have lo7 := r2.stay v3 (fun id h e => by cases h; cases e; exact hv.d2 rfl)
        have m7 : H7[om]? = some (.map (ents (ws.map (kindOf k n) ++ [y]))) := by rw [v3.2 om (by omega) (fun e => by cases e; exact hv.d1 rfl)]; exact m6
        -- where the letter leads
        obtain ⟨a6', c6', o6', H8, q1, q2, q3, q4, q5, q6⟩ := own_app T54 x7 (ecs := [.int .i64 (ws.length : Int)]) rfl rfl (prot := H0.length) (room := true) (fun id h => (hv.b6 id h).1) (by omega) (by omega) (L := 1 * 1) rfl (el := [Value.int .i64 (ws.length : Int)].length) rfl
        have hsz := hw.sz i ws[i] (List.getElem?_eq_getElem hi)
        have hes : (Utf8.encode (97 + (l : Int))).size = 1 := by rw [enc_low (by omega), strOf_size]; rfl
        have step := f27_L1_2 k n a4 ws.length c4 (some om) a6 nx.length c6 a8 ws.length c8 i k l H0 prot H o8' (i * 74) (kcs k n ws).length (kc (kindOf k n ws[i])).toArray (kc y).toArray H.length 0 74 _ H3 (kc y).toArray 0 false
          (kc y).toArray H4 (kc y).toArray _ _ _ _ a8' _ c8' H6 o4' i _ ws[i] a4' _ c4' H7 a6' _ c6' H8 (by omega) g1 g3 g4 (alloc65 H) (hlenk y hy) p1 g8 g9 rfl (by simpa using (fun e : (ws.length : Int) = 3000 => h3 (by omega))) g8 up g14 (abuild74 H4 hy) r1 t1 t2
          (fit64 (by omega) (by omega)) (fit32 (by omega) (by omega)) (by rw [hes]; omega) (by rw [enc_low (by omega)]; exact v1) q1 (fit64 (by omega) (by omega))
        have hne : ∀ q, (q = o4' ∨ q = om ∨ q = o8') → q ≠ o6' ∧ ¬ o6 = some q := fun q hq => by
          constructor
          · intro e
            cases ho : o6 with
            | none => have := q5 ho; rcases hq with h | h | h <;> omega
            | some id =>
              have h1 := q6 id ho
              have h2 := hv.b6 id ho
              rcases hq with h | h | h <;> omega
          · intro e
            have h2 := hv.b6 q e
            rcases hq with h | h | h <;> omega
        have el : (ws ++ [v]).length = ws.length + 1 := by simp
        have inv' : Inv k n H0 H8 (ws ++ [v]) (nx ++ [ws.length]) (.slice a4' (ws.length + 1) c4') (.slice a6' (nx.length + 1) c6') (.slice a8' (ws.length + 1) c8') o4' om (some o6') o8' := by
          refine ⟨?_, ?_, by simpa [ic_snoc] using q2, ?_, hv.b4, hv.bm, hv.b8, fun id h => ?_, hv.d1, hv.d2, hv.d3, (((st3.over s4 (fun id h => by cases h; exact hv.bm)).over r3 (fun id h => by cases h; exact hv.b8)).over v3 (fun id h => by cases h; exact hv.b4)).over q3 (fun id h => (hv.b6 id h).1)⟩
          · rw [el, sc_append]
            exact v2.stay q3 (fun id h e => by cases h; exact (hne o4' (.inl rfl)).2 e)
          · rw [q3.2 om (by omega) (hne om (.inr (.inl rfl))).2, m7, List.map_append]
            rfl
          · rw [el, kcs_snoc]
            exact lo7.stay q3 (fun id h e => by cases h; exact (hne o8' (.inr (.inr rfl))).2 e)
          · cases h
            exact ⟨q4, fun e => (hne o4' (.inl rfl)).1 e.symm, fun e => (hne om (.inr (.inl rfl))).1 e.symm, fun e => (hne o8' (.inr (.inr rfl))).1 e.symm⟩
        have hpush : WsOK k (ws ++ [v]) := by
          have := hw.push hk hi hlk h3
          rw [hgd] at this
          exact this
        have ih := loop27i hk1 hk hn H0 prot o4' om o8' i d (l + 1) (ws ++ [v]) (nx ++ [ws.length]) _ _ _ (some o6') H8 (by omega) (by rw [el]; omega) hpush (by simp; omega) inv'
        revert ih
        cases clsIn k (sho k (n + 1)) i d (l + 1) (ws ++ [v]) (nx ++ [ws.length]) with
        | some r =>
          rintro ⟨a, c, a1, n1, c1, a2, c2, o, H', h1, h2⟩
          exact ⟨a, c, a1, n1, c1, a2, c2, o, H', lp_next step h1, h2⟩
        | none =>
          rintro ⟨z, H', h1⟩
          exact ⟨z, H', lp_next step h1⟩
end Go.Proofs.Ytedfombojnfbiaa.Am24
namespace Go.Proofs.Ytedfombojnfbiaa.Am24
open Go Go.Proofs.Ytedfombojnfbiaa.Am

theorem loop27o {k n : Nat} (hk1 : 1 ≤ k) (hk : k ≤ 8) (hn : n ≤ 4) (H0 : AHeap) (prot : Nat) (o4 om o8 : Nat) : ∀ (f i : Nat) (ws : List ByteArray) (nx : List Nat) (x4 x6 x8 : Value) (o6 : Option Nat) (H : AHeap), f + i = 3001 → i ≤ ws.length → WsOK k ws → nx.length = i * k →
    Inv k n H0 H ws nx x4 x6 x8 o4 om o6 o8 →
    match clsOut k (sho k (n + 1)) f i ws nx with
    | some r => ∃ a4 c4 a6 n6 c6 x8' o6' H', lpInf (lpOf cfg a27 0 prot H0) ([.int .i64 k, .int .i64 n, x4, .map (some om), x6, x8, .int .i64 i], H) = some (.exit 0, [.slice a4 r.1.length c4, .map (some om), .slice a6 n6 c6, .tuple #[]], H') ∧
        Inv k n H0 H' r.1 r.2 (.slice a4 r.1.length c4) (.slice a6 n6 c6) x8' o4 om o6' o8 ∧ WsOK k r.1 ∧ r.2.length = r.1.length * k
    | none => ∃ H', lpInf (lpOf cfg a27 0 prot H0) ([.int .i64 k, .int .i64 n, x4, .map (some om), x6, x8, .int .i64 i], H) = some (.ret, [.slice none 0 0, .map none, .slice none 0 0, .int .i64 6], H')
  | 0, i, ws, nx, x4, x6, x8, o6, H, hf, hi, hw, hnx, hv => by have := hw.le; omega
  | f + 1, i, ws, nx, x4, x6, x8, o6, H, hf, hi, hw, hnx, hv => by
    obtain ⟨a4, c4, rfl⟩ := hv.w.len
    obtain ⟨a6, c6, rfl⟩ := hv.x.len
    obtain ⟨a8, c8, rfl⟩ := hv.l.len
    have hle := hw.le
    simp only [clsOut]
    by_cases h : i < ws.length
    · rw [if_pos h]
      have ih := loop27i hk1 hk hn H0 prot o4 om o8 i k 0 ws nx _ _ _ o6 H (by omega) h hw (by omega) hv
      revert ih
      cases hc : clsIn k (sho k (n + 1)) i k 0 ws nx with
      | some r =>
        rintro ⟨b4, d4, b6, m6, d6, b8, d8, o6', H', h1, h2, h3, h4, h5⟩
        rw [Option.bind_some]
        have step := f27_L0_0 k n a4 ws.length c4 (some om) a6 nx.length c6 a8 ws.length c8 i H0 prot H k n b4 r.1.length d4 (some om) b6 m6 d6 (.tuple #[]) b8 r.1.length d8 i H' (by omega) h1 (fit64 (by omega) (by omega))
        have e : m6 = r.2.length := by
          obtain ⟨a, c, he⟩ := h2.x.len
          injection he
        subst e
        have ih2 := loop27o hk1 hk hn H0 prot o4 om o8 f (i + 1) r.1 r.2 _ _ _ o6' H' (by omega) (by omega) h3 (by rw [h5, Nat.add_mul, Nat.one_mul]) h2
        revert ih2
        cases clsOut k (sho k (n + 1)) f (i + 1) r.1 r.2 with
        | some r' =>
          rintro ⟨p1, p2, p3, p4, p5, p6, p7, p8, q1, q2⟩
          exact ⟨p1, p2, p3, p4, p5, p6, p7, p8, lp_next step q1, q2⟩
        | none =>
          rintro ⟨H2, q1⟩
          exact ⟨H2, lp_next step q1⟩
      | none =>
        rintro ⟨z8, H', h1⟩
        simp only [Option.bind_none]
        exact ⟨H', lp_last (f27_L0_1 k n a4 ws.length c4 (some om) a6 nx.length c6 a8 ws.length c8 i H0 prot H (.int .i64 k) (.int .i64 n) none 0 0 none none 0 0 6 z8 (.int .i64 i) H' (by omega) h1)⟩
    · rw [if_neg h]
      have : i = ws.length := by omega
      subst this
      exact ⟨a4, c4, a6, _, c6, _, o6, H, lp_last (f27_L0_2 k n a4 _ c4 (some om) a6 _ c6 a8 _ c8 (ws.length : Nat) H0 prot H (by omega)), hv, hw, hnx⟩

theorem gc_map {H H' : AHeap} {s t u : Value} {om : Nat} : gc H [s, .map (some om), t, u] H' = (.tuple #[s, .map (some om), t, u], H') := by
  unfold gc
  have : keepAll H.length H' [s, .map (some om), t, u] [] = none := by
    simp only [keepAll]
    cases keep1 H.length H' s [] with
    | none => rfl
    | some r =>
      rw [Option.bind_some]
      have : keep1 H.length H' (.map (some om)) r.2 = none := by simp [keep1, plain1, plain0]
      rw [this]
      rfl
  rw [this]
  split <;> rfl

theorem kind_empty (k n : Nat) : kindOf k n ⟨#[]⟩ = firstW := rfl

theorem c27 {k n : Nat} (hk1 : 1 ≤ k) (hk : k ≤ 8) (hn : n ≤ 4) (prot : Nat) (H : AHeap) :
    match clsV k n with
    | some r => ∃ a4 c4 a6 n6 c6 o4 om o6 H', callInf cfg 27 [.int .i64 k, .int .i64 n] prot H = some (.tuple #[.slice a4 r.1.length c4, .map (some om), .slice a6 n6 c6, .int .i64 0], H') ∧
        Own H' 9 1 (.slice a4 r.1.length c4) (some o4) r.1.length (sc r.1) ∧ H'[om]? = some (.map (ents (r.1.map (kindOf k n)))) ∧ Own H' 3 1 (.slice a6 n6 c6) o6 r.2.length (ic r.2) ∧ H.length ≤ o4 ∧ H.length ≤ om ∧ (∀ id, o6 = some id → H.length ≤ id ∧ id ≠ o4) ∧ Stay none H H' ∧ WsOK k r.1 ∧ r.2.length = r.1.length * k
    | none => callInf cfg 27 [.int .i64 k, .int .i64 n] prot H = some (.tuple #[.slice none 0 0, .map none, .slice none 0 0, .int .i64 6], H) := by
  let Ha := H ++ [AObj.hole, AObj.hole]
  have la : Ha.length = H.length + 2 := by simp [Ha]
  have g1 : Ha[H.length + 1]? = some .hole := by simp [Ha]
  have g0 : Ha[H.length + 0]? = some .hole := by simp [Ha]
  let Hb := Ha.set (H.length + 1) (.map [])
  have lb : Hb.length = H.length + 2 := by simp [Hb, la]
  have m1 : Hb[H.length + 1]? = some (.map (ents [])) := List.getElem?_set_self (by omega)
  obtain ⟨H1, up, m2, s2, l2⟩ := upd_ex (ks := []) (fun y h => by cases h) firstOK (prot := H.length) (by omega) m1 rfl
  have b0 : Hb[H.length + 0]? = some .hole := by
    show (Ha.set (H.length + 1) (.map []))[H.length + 0]? = _
    rw [List.getElem?_set_ne (by omega)]; exact g0
  have b1 : H1[H.length + 0]? = some .hole := by rw [s2.2 _ (by omega) (fun e => by have := Option.some.inj e; omega)]; exact b0
  let o : AObj := .cells [.string ⟨#[]⟩] 9 [Value.string ⟨#[]⟩].length .row
  let Hc := H1.set (H.length + 0) o
  have lc : Hc.length = H.length + 2 := by simp [Hc, l2, lb]
  have c0 : Hc[H.length + 0]? = some o := List.getElem?_set_self (by omega)
  have mc : Hc[H.length + 1]? = some (.map (ents ([] ++ [firstW]))) := by
    show (H1.set (H.length + 0) o)[H.length + 1]? = _
    rw [List.getElem?_set_ne (by omega)]; exact m2
  have stc : Stay none H Hc := by
    refine ⟨by omega, fun q hq _ => ?_⟩
    show (H1.set (H.length + 0) o)[q]? = _
    rw [List.getElem?_set_ne (by omega), s2.2 q (by omega) (fun e => by have := Option.some.inj e; omega)]
    show (Ha.set (H.length + 1) (.map []))[q]? = _
    rw [List.getElem?_set_ne (by omega)]
    show (H ++ _)[q]? = _
    rw [List.getElem?_append_left hq]
  have hab := abuild74 Hc firstOK
  let H2 := Hc ++ [AObj.cells (kc firstW) 65 (kc firstW).length .row]
  have inv : Inv k n H H2 [⟨#[]⟩] [] (.slice (some ⟨H.length + 0, 0, some (1 * 1)⟩) 1 1) (.slice none 0 0) (.slice (some ⟨Hc.length, 0, some (1 * 74)⟩) 1 1) (H.length + 0) (H.length + 1) none Hc.length := by
    refine ⟨⟨rfl, by simp, rfl, 1, Nat.le_refl _, ?_⟩, ?_, own_nil, ⟨rfl, by simp, rfl, 74, Nat.le_refl _, append_get.1⟩, by omega, by omega, by omega, (fun id h => by cases h), by omega, by omega, by omega, stc.trans (Stay.app none Hc _)⟩
    · show (Hc ++ _)[H.length + 0]? = _
      rw [List.getElem?_append_left (by omega)]
      exact c0
    · show (Hc ++ _)[H.length + 1]? = _
      rw [List.getElem?_append_left (by omega)]
      exact mc
  have hl := loop27o hk1 hk hn H prot (H.length + 0) (H.length + 1) Hc.length 3001 0 [⟨#[]⟩] [] _ _ _ none H2 rfl (by simp) (WsOK.first k) (by simp) inv
  unfold clsV
  revert hl
  cases clsOut k (sho k (n + 1)) 3001 0 [⟨#[]⟩] [] with
  | some r =>
    rintro ⟨a4, c4, a6, n6, c6, x8, o6, H3, h1, h2, h3, h4⟩
    refine ⟨a4, c4, a6, n6, c6, H.length + 0, H.length + 1, o6, H3, ?_, h2.w, h2.m, h2.x, by omega, by omega, fun id h => ⟨(h2.b6 id h).1, (h2.b6 id h).2.1⟩, h2.st, h3, h4⟩
    refine f27_F_0 k n H prot (kc firstW).toArray H1 (kc firstW).toArray _ _ _ H2 a4 _ c4 (some (H.length + 1)) a6 n6 c6 (.tuple #[]) H3 _ _ (c38 _ _) g1 up b1 (c38 _ _) hab h1 ?_
    rw [pfin_eq]
    exact gc_map
  | none =>
    rintro ⟨H3, h1⟩
    refine f27_F_1 k n H prot (kc firstW).toArray H1 (kc firstW).toArray _ _ _ H2 none 0 0 none none 0 0 6 H3 _ _ (c38 _ _) g1 up b1 (c38 _ _) hab h1 ?_
    rw [pfin_eq]
    exact gc_plain (H1 := H3) (vs := [.slice none 0 0, .map none, .slice none 0 0, .int .i64 6]) rfl
end Go.Proofs.Ytedfombojnfbiaa.Am24
set_option linter.unusedVariables false
open Go Go.Proofs.Ytedfombojnfbiaa.Am
namespace Go.Proofs.Ytedfombojnfbiaa.Am24
theorem f41_F_0 (x0a : Option Addr) (x0n : Nat) (x0c : Nat) (x1 : ByteArray) (H : AHeap) (prot : Nat) (z5a : Option Addr) (z5n : Nat) (z5c : Nat) (H1 : AHeap) (x29 : ByteArray) (h1 : 0 ≤ (↑x0n : Int)) (h2 : (↑x0n : Int) = (↑x0n : Int)) (h3 : (↑x0n : Int) ≤ 9223372036854775807) (h4 : (↑1 : Int) * (↑x0n : Int) ≤ 2 ^ 48) (h5 : lpInf (lpOf cfg a41 0 prot H) ([Value.slice x0a x0n x0c, Value.string x1, Value.slice (some { block := List.length H, off := 0, spot := some ((↑x0n : Int).toNat * 1) }) (↑x0n : Int).toNat (↑x0n : Int).toNat, Value.int IntKind.i64 0], H ++ [AObj.cells (repCells [Value.int IntKind.u8 0] (↑x0n : Int).toNat) 5 (repCells [Value.int IntKind.u8 0] (↑x0n : Int).toNat).length OMode.row]) = some (Ex.exit 0, [Value.slice z5a z5n z5c], H1)) (h6 : aconv cfg.P 79 9 (Value.slice z5a z5n z5c) H1 = some (Value.string x29)) : callInf cfg 41 [.slice x0a x0n x0c, .string x1] prot H = some (Value.string x29, H) :=
  fn_of a41 [.e, .e, .lo (.exit 0, [.slice z5a z5n z5c], H1), .v (.string x29)] (fun e => (0 ≤ (↑x0n : Int)) ∧ ((↑x0n : Int) = (↑x0n : Int)) ∧ ((↑x0n : Int) ≤ 9223372036854775807) ∧ ((↑1 : Int) * (↑x0n : Int) ≤ 2 ^ 48) ∧ (lpInf (lpOf cfg a41 0 prot H) ([Value.slice x0a x0n x0c, Value.string x1, Value.slice (some { block := List.length H, off := 0, spot := some ((↑x0n : Int).toNat * 1) }) (↑x0n : Int).toNat (↑x0n : Int).toNat, Value.int IntKind.i64 0], H ++ [AObj.cells (repCells [Value.int IntKind.u8 0] (↑x0n : Int).toNat) 5 (repCells [Value.int IntKind.u8 0] (↑x0n : Int).toNat).length OMode.row]) = some (Ex.exit 0, [Value.slice z5a z5n z5c], H1)) ∧ (aconv cfg.P 79 9 (Value.slice z5a z5n z5c) H1 = some (Value.string x29)) ∧ e) (by kernel_rfl) ⟨h1, h2, h3, h4, h5, h6, rfl⟩ rfl
theorem f41_L0_0 (x0a : Option Addr) (x0n : Nat) (x0c : Nat) (x1 : ByteArray) (x5a : Option Addr) (x5n : Nat) (x5c : Nat) (x6 : Int) (H0 : AHeap) (prot : Nat) (H : AHeap) (x18p : Nat) (x18o : Nat) (x18l : Nat) (H2 : AHeap) (x21p : Nat) (x21o : Nat) (x21l : Nat) (x22 : ByteArray) (x24 : Bool) (x27p : Nat) (x27o : Nat) (x27l : Nat) (H3 : AHeap) (h1 : x6 < (↑x0n : Int)) (h2 : aindexAddr cfg.P 79 (Value.slice x5a x5n x5c) (Value.int IntKind.i64 x6) = some (Value.pointer (some { block := x18p, off := x18o, spot := some x18l }))) (h3 : [Value.int IntKind.u8 48].length = 1) (h4 : setCells H (List.length H0) x18p x18l x18o [Value.int IntKind.u8 48] = some H2) (h5 : aindexAddr cfg.P 22 (Value.slice x0a x0n x0c) (Value.int IntKind.i64 x6) = some (Value.pointer (some { block := x21p, off := x21o, spot := some x21l }))) (h6 : getCells H2 x21p x21l x21o 1 = some [Value.string x22]) (h7 : callInf cfg 24 [Value.string x22, Value.string x1] (List.length H0) H2 = some (Value.bool x24, H2)) (h8 : x24 = true) (h9 : aindexAddr cfg.P 79 (Value.slice x5a x5n x5c) (Value.int IntKind.i64 x6) = some (Value.pointer (some { block := x27p, off := x27o, spot := some x27l }))) (h10 : [Value.int IntKind.u8 49].length = 1) (h11 : setCells H2 (List.length H0) x27p x27l x27o [Value.int IntKind.u8 49] = some H3) (h12 : Fit IntKind.i64 (x6 + 1)) : lpOf cfg a41 0 prot H0 ([.slice x0a x0n x0c, .string x1, .slice x5a x5n x5c, .int .i64 x6], H) = some (Sum.inl ([Value.slice x0a x0n x0c, Value.string x1, Value.slice x5a x5n x5c, Value.int IntKind.i64 (x6 + 1)], H3)) :=
  lp_of [.e, .e, .b true, .v (.pointer (some ⟨x18p, x18o, some x18l⟩)), .h H2, .v (.pointer (some ⟨x21p, x21o, some x21l⟩)), .v (.string x22), .v (.bool x24), .b true, .v (.pointer (some ⟨x27p, x27o, some x27l⟩)), .h H3, .e] (fun e => (decide (x6 < (↑x0n : Int)) = true) ∧ (aindexAddr cfg.P 79 (Value.slice x5a x5n x5c) (Value.int IntKind.i64 x6) = some (Value.pointer (some { block := x18p, off := x18o, spot := some x18l }))) ∧ ([Value.int IntKind.u8 48].length = 1) ∧ (setCells H (List.length H0) x18p x18l x18o [Value.int IntKind.u8 48] = some H2) ∧ (aindexAddr cfg.P 22 (Value.slice x0a x0n x0c) (Value.int IntKind.i64 x6) = some (Value.pointer (some { block := x21p, off := x21o, spot := some x21l }))) ∧ (getCells H2 x21p x21l x21o 1 = some [Value.string x22]) ∧ (callInf cfg 24 [Value.string x22, Value.string x1] (List.length H0) H2 = some (Value.bool x24, H2)) ∧ (x24 = true) ∧ (aindexAddr cfg.P 79 (Value.slice x5a x5n x5c) (Value.int IntKind.i64 x6) = some (Value.pointer (some { block := x27p, off := x27o, spot := some x27l }))) ∧ ([Value.int IntKind.u8 49].length = 1) ∧ (setCells H2 (List.length H0) x27p x27l x27o [Value.int IntKind.u8 49] = some H3) ∧ (Fit IntKind.i64 (x6 + 1)) ∧ e) (by kernel_rfl) ⟨decide_eq_true h1, h2, h3, h4, h5, h6, h7, h8, h9, h10, h11, h12, rfl⟩
theorem f41_L0_1 (x0a : Option Addr) (x0n : Nat) (x0c : Nat) (x1 : ByteArray) (x5a : Option Addr) (x5n : Nat) (x5c : Nat) (x6 : Int) (H0 : AHeap) (prot : Nat) (H : AHeap) (x18p : Nat) (x18o : Nat) (x18l : Nat) (H2 : AHeap) (x21p : Nat) (x21o : Nat) (x21l : Nat) (x22 : ByteArray) (x24 : Bool) (h1 : x6 < (↑x0n : Int)) (h2 : aindexAddr cfg.P 79 (Value.slice x5a x5n x5c) (Value.int IntKind.i64 x6) = some (Value.pointer (some { block := x18p, off := x18o, spot := some x18l }))) (h3 : [Value.int IntKind.u8 48].length = 1) (h4 : setCells H (List.length H0) x18p x18l x18o [Value.int IntKind.u8 48] = some H2) (h5 : aindexAddr cfg.P 22 (Value.slice x0a x0n x0c) (Value.int IntKind.i64 x6) = some (Value.pointer (some { block := x21p, off := x21o, spot := some x21l }))) (h6 : getCells H2 x21p x21l x21o 1 = some [Value.string x22]) (h7 : callInf cfg 24 [Value.string x22, Value.string x1] (List.length H0) H2 = some (Value.bool x24, H2)) (h8 : x24 = false) (h9 : Fit IntKind.i64 (x6 + 1)) : lpOf cfg a41 0 prot H0 ([.slice x0a x0n x0c, .string x1, .slice x5a x5n x5c, .int .i64 x6], H) = some (Sum.inl ([Value.slice x0a x0n x0c, Value.string x1, Value.slice x5a x5n x5c, Value.int IntKind.i64 (x6 + 1)], H2)) :=
  lp_of [.e, .e, .b true, .v (.pointer (some ⟨x18p, x18o, some x18l⟩)), .h H2, .v (.pointer (some ⟨x21p, x21o, some x21l⟩)), .v (.string x22), .v (.bool x24), .b false, .e] (fun e => (decide (x6 < (↑x0n : Int)) = true) ∧ (aindexAddr cfg.P 79 (Value.slice x5a x5n x5c) (Value.int IntKind.i64 x6) = some (Value.pointer (some { block := x18p, off := x18o, spot := some x18l }))) ∧ ([Value.int IntKind.u8 48].length = 1) ∧ (setCells H (List.length H0) x18p x18l x18o [Value.int IntKind.u8 48] = some H2) ∧ (aindexAddr cfg.P 22 (Value.slice x0a x0n x0c) (Value.int IntKind.i64 x6) = some (Value.pointer (some { block := x21p, off := x21o, spot := some x21l }))) ∧ (getCells H2 x21p x21l x21o 1 = some [Value.string x22]) ∧ (callInf cfg 24 [Value.string x22, Value.string x1] (List.length H0) H2 = some (Value.bool x24, H2)) ∧ (x24 = false) ∧ (Fit IntKind.i64 (x6 + 1)) ∧ e) (by kernel_rfl) ⟨decide_eq_true h1, h2, h3, h4, h5, h6, h7, h8, h9, rfl⟩
theorem f41_L0_2 (x0a : Option Addr) (x0n : Nat) (x0c : Nat) (x1 : ByteArray) (x5a : Option Addr) (x5n : Nat) (x5c : Nat) (x6 : Int) (H0 : AHeap) (prot : Nat) (H : AHeap) (h1 : ¬(x6 < (↑x0n : Int))) : lpOf cfg a41 0 prot H0 ([.slice x0a x0n x0c, .string x1, .slice x5a x5n x5c, .int .i64 x6], H) = some (Sum.inr (Ex.exit 0, [Value.slice x5a x5n x5c], H)) :=
  lp_of [.e, .e, .b false] (fun e => (decide (x6 < (↑x0n : Int)) = false) ∧ e) (by kernel_rfl) ⟨decide_eq_false h1, rfl⟩
end Go.Proofs.Ytedfombojnfbiaa.Am24
namespace Go.Proofs.Ytedfombojnfbiaa.Am24
open Go Go.Proofs.Ytedfombojnfbiaa.Am

def trB (k : Nat) (w : ByteArray) (j : Nat) : Nat := if isP (txt k j) w then 49 else 48
def truL (k : Nat) (w : ByteArray) (d i : Nat) : List Nat := (List.range' i d).map (trB k w)
/-- The truths of a word, as a text. -/
def tru (k N : Nat) (w : ByteArray) : ByteArray := strOf (truL k w N 0)

theorem put_bc (l : List Nat) {i : Nat} (hi : i < l.length) (c : Nat) : putList (bc l) (i * 1 + 0) [.int .u8 (c : Int)] = bc (l.set i c) := by
  unfold putList bc
  rw [Nat.mul_one, Nat.add_zero]
  apply List.ext_getElem
  · simp; omega
  · intro j h1 h2
    simp only [List.getElem_map, List.getElem_set]
    rw [List.getElem_append]
    split
    · rename_i hj
      rw [List.getElem_append]
      split
      · rename_i hj2
        simp only [List.length_take, List.length_map] at hj2
        rw [if_neg (by omega)]
        simp
      · rename_i hj2
        simp only [List.length_append, List.length_take, List.length_map, List.length_cons, List.length_nil] at hj hj2
        rw [if_pos (by omega)]
        simp
    · rename_i hj
      simp only [List.length_append, List.length_take, List.length_map, List.length_cons, List.length_nil] at hj
      rw [if_neg (by omega)]
      simp only [List.getElem_drop, List.getElem_map, List.length_append, List.length_take, List.length_map, List.length_cons, List.length_nil]
      congr 3
      omega

theorem loop41 {k n : Nat} (hk1 : 1 ≤ k) (hk : k ≤ 8) (hn : n ≤ 4) {w : ByteArray} (hs : w.size < 9223372036854775807) {x : Value} {ox oy : Nat} (H0 : AHeap) (prot : Nat) (hoy : H0.length ≤ oy) (hne : ox ≠ oy) : ∀ (d i : Nat) (y : Value) (l : List Nat) (H : AHeap), i + d = sho k (n + 1) → l.length = sho k (n + 1) →
    Own H 9 1 x (some ox) (sho k (n + 1)) (sc (wds k (sho k (n + 1)))) → Own H 5 1 y (some oy) (sho k (n + 1)) (bc l) →
    ∃ H', lpInf (lpOf cfg a41 0 prot H0) ([x, .string w, y, .int .i64 i], H) = some (.exit 0, [y], H') ∧ Own H' 5 1 y (some oy) (sho k (n + 1)) (bc (l.take i ++ truL k w d i))
  | 0, i, y, l, H, hi, hl, hx, hy => by
    obtain ⟨a, c, rfl⟩ := hx.len
    obtain ⟨b, e, rfl⟩ := hy.len
    refine ⟨H, lp_last (f41_L0_2 a _ c w b _ e i H0 prot H (by omega)), ?_⟩
    have : l.take i ++ truL k w 0 i = l := by
      unfold truL
      rw [List.take_of_length_le (by omega)]
      simp
    rw [this]
    exact hy
  | d + 1, i, y, l, H, hi, hl, hx, hy => by
    obtain ⟨a, c, rfl⟩ := hx.len
    obtain ⟨b, e, rfl⟩ := hy.len
    have hil : i < sho k (n + 1) := by omega
    have hr := sho_room hk hn
    have hss := sho_succ k n
    obtain ⟨id1, H2, hid1, p1, p2, p3, p4, p5⟩ := own_setS T79 hy (i := i) (j := 0) hil (vs := [.int .u8 ((48 : Nat) : Int)]) (by simp) rfl (prot := H0.length) (fun id h => by cases h; exact hoy)
    cases hid1
    rw [put_bc l (by omega) 48] at p3
    have hx2 := hx.stay p4 (fun id h1 h2 => by cases h1; cases h2; exact hne rfl)
    obtain ⟨id2, hid2, g1, g2⟩ := own_at T22 hx2 (sc_get (wds_get hil))
    have hts := txt_size hk1 hil
    have h7 := c24 (txt k i) w (by omega) hs H0.length H2
    have fin : ∀ (c' : Nat), (l.set i c').take (i + 1) = l.take i ++ [c'] := fun c' => by
      rw [List.take_add_one, List.take_set, List.getElem?_set_self (by omega), List.set_eq_of_length_le (by rw [List.length_take]; exact Nat.min_le_left _ _)]
      rfl
    have hcons : truL k w (d + 1) i = trB k w i :: truL k w d (i + 1) := by unfold truL; rw [List.range'_succ]; rfl
    by_cases he : isP (txt k i) w = true
    · obtain ⟨id3, H3, hid3, q1, q2, q3, q4, q5⟩ := own_setS T79 p3 (i := i) (j := 0) hil (vs := [.int .u8 ((49 : Nat) : Int)]) (by simp) rfl (prot := H0.length) (fun id h => by cases h; exact hoy)
      cases hid3
      rw [put_bc _ (by simp; omega) 49, List.set_set] at q3
      have step := f41_L0_0 a _ c w b _ e i H0 prot H oy (i * 1) _ H2 id2 i _ (txt k i) _ oy (i * 1) _ H3 (by omega) p1 rfl p2 g1 g2 h7 he q1 rfl q2 (fit64 (by omega) (by omega))
      obtain ⟨H', r1, r2⟩ := loop41 hk1 hk hn hs H0 prot hoy hne d (i + 1) _ (l.set i 49) H3 (by omega) (by simp; omega) (hx2.stay q4 (fun id h1 h2 => by cases h1; cases h2; exact hne rfl)) q3
      refine ⟨H', lp_next step r1, ?_⟩
      rw [hcons, show trB k w i = 49 by unfold trB; rw [if_pos he]]
      rw [fin 49] at r2
      simpa using r2
    · have step := f41_L0_1 a _ c w b _ e i H0 prot H oy (i * 1) _ H2 id2 i _ (txt k i) _ (by omega) p1 rfl p2 g1 g2 h7 (by simpa using he) (fit64 (by omega) (by omega))
      obtain ⟨H', r1, r2⟩ := loop41 hk1 hk hn hs H0 prot hoy hne d (i + 1) _ (l.set i 48) H2 (by omega) (by simp; omega) hx2 p3
      refine ⟨H', lp_next step r1, ?_⟩
      rw [hcons, show trB k w i = 48 by unfold trB; rw [if_neg he]]
      rw [fin 48] at r2
      simpa using r2

theorem rep_bc : ∀ N, repCells [.int .u8 0] N = bc (List.replicate N 0)
  | 0 => rfl
  | N + 1 => by
    have := rep_bc N
    unfold repCells
    rw [this, List.replicate_succ]
    rfl

theorem c41 {k n : Nat} (hk1 : 1 ≤ k) (hk : k ≤ 8) (hn : n ≤ 4) {w : ByteArray} (hs : w.size < 9223372036854775807) {x : Value} {ox : Nat} (prot : Nat) (H : AHeap) (hx : Own H 9 1 x (some ox) (sho k (n + 1)) (sc (wds k (sho k (n + 1))))) :
    callInf cfg 41 [x, .string w] prot H = some (.string (tru k (sho k (n + 1)) w), H) := by
  obtain ⟨a, c, rfl⟩ := hx.len
  have hr := sho_room hk hn
  have hss := sho_succ k n
  have hpos : 0 < sho k (n + 1) := by omega
  have hlt : ox < H.length := (List.getElem?_eq_some_iff.1 hx.2.2.2.choose_spec.2).1
  have hnat : ((sho k (n + 1) : Nat) : Int).toNat = sho k (n + 1) := Int.toNat_natCast _
  have e1 : repCells [.int .u8 0] ((sho k (n + 1) : Nat) : Int).toNat = bc (List.replicate (sho k (n + 1)) 0) := by rw [hnat, rep_bc]
  have hb : Own (H ++ [.cells (repCells [.int .u8 0] ((sho k (n + 1) : Nat) : Int).toNat) 5 (repCells [.int .u8 0] ((sho k (n + 1) : Nat) : Int).toNat).length .row]) 5 1 (.slice (some ⟨H.length, 0, some (((sho k (n + 1) : Nat) : Int).toNat * 1)⟩) ((sho k (n + 1) : Nat) : Int).toNat ((sho k (n + 1) : Nat) : Int).toNat) (some H.length) (sho k (n + 1)) (bc (List.replicate (sho k (n + 1)) 0)) := by
    rw [e1, hnat]
    exact own_new (by simp [bc]) hpos (by simp [bc]) rfl
  obtain ⟨H1, h1, h2⟩ := loop41 hk1 hk hn hs H prot (Nat.le_refl _) (show ox ≠ H.length by omega) (sho k (n + 1)) 0 _ _ _ (by omega) (by simp) (hx.stay (Stay.app none H _) (fun _ _ h => by cases h)) hb
  simp only [List.take_zero, List.nil_append] at h2
  obtain ⟨b, e, hbe⟩ := h2.len
  have hlen : (truL k w (sho k (n + 1)) 0).length = sho k (n + 1) := by simp [truL]
  rw [hnat] at h1 h2 hbe
  refine f41_F_0 a _ c w H prot (some ⟨H.length, 0, some (sho k (n + 1) * 1)⟩) (sho k (n + 1)) (sho k (n + 1)) H1 _ (by omega) rfl (by omega) (by omega) (by rw [hnat]; exact h1) ?_
  obtain ⟨_, _, hxx, wr, hwr, hH⟩ := h2
  have hbl : (bc (truL k w (sho k (n + 1)) 0)).length = sho k (n + 1) := by simp [bc, hlen]
  have hcells : cellsAt 1 (.slice (some ⟨H.length, 0, some (sho k (n + 1) * 1)⟩) (sho k (n + 1)) (sho k (n + 1))) H1 = some (bc (truL k w (sho k (n + 1)) 0)) := by
    simp only [cellsAt]
    unfold getCells
    rw [hH]
    simp only [hbl] at hwr ⊢
    rw [if_pos ⟨by omega, by omega, by omega⟩, List.drop_zero, List.take_of_length_le (by omega)]
  unfold aconv
  have u1 : cfg.P.underlying 79 = some (.slice 5) := by kernel_rfl
  have u2 : cfg.P.underlying 9 = some .string := by kernel_rfl
  have u3 : cfg.P.underlying 5 = some (.int .u8) := by kernel_rfl
  rw [u1, u2]
  simp only
  rw [u3]
  simp only
  rw [hcells, Option.bind_some, bytes_bc]
  rfl

theorem tru_inj {k N : Nat} {u v : ByteArray} : tru k N u = tru k N v ↔ dif k u v N 0 = none := by
  rw [dif_none]
  constructor
  · intro h j _ hj
    have h2 : bl (tru k N u) = bl (tru k N v) := by rw [h]
    have e : ∀ w, bl (tru k N w) = (truL k w N 0).map fun n => UInt8.ofNat n := fun w => rfl
    rw [e, e] at h2
    have hj' : j < N := by omega
    have h3 := congrArg (fun l => l[j]?) h2
    simp only [truL, List.getElem?_map, List.getElem?_range' (show j < N by omega)] at h3
    simp only [Option.map_some, Option.some.injEq, Nat.zero_add, Nat.one_mul] at h3
    unfold trB at h3
    cases h4 : isP (txt k j) u <;> cases h5 : isP (txt k j) v <;> simp [h4, h5] at h3 ⊢
  · intro h
    unfold tru truL
    congr 1
    apply List.map_congr_left
    intro j hj
    have : j < N := by
      have := List.mem_range'.1 hj
      omega
    unfold trB
    rw [h j (by omega) (by omega)]
end Go.Proofs.Ytedfombojnfbiaa.Am24
set_option linter.unusedVariables false
open Go Go.Proofs.Ytedfombojnfbiaa.Am
namespace Go.Proofs.Ytedfombojnfbiaa.Am24
theorem f18_F_0 (x0 : Int) (x1 : ByteArray) (x2 : Int) (H : AHeap) (prot : Nat) (x16 : Int) (h1 : callInf cfg 26 [Value.int IntKind.i64 x0, Value.int IntKind.i64 x2, Value.slice (some { block := List.length H, off := 0, spot := some (1 * 1) }) 1 1] (List.length H) (H ++ [AObj.cells [Value.string x1] 9 [Value.string x1].length OMode.row]) = some (Value.int IntKind.i64 x16, H ++ [AObj.cells [Value.string x1] 9 [Value.string x1].length OMode.row])) (h2 : (x16 != 0) = true) : callInf cfg 18 [.int .i64 x0, .string x1, .int .i64 x2] prot H = some (Value.tuple { toList := [Value.slice none 0 0, Value.int IntKind.i64 x16] }, H) :=
  fn_of a18 [.e, .v (.int .i64 x16), .e, .b true] (fun e => (callInf cfg 26 [Value.int IntKind.i64 x0, Value.int IntKind.i64 x2, Value.slice (some { block := List.length H, off := 0, spot := some (1 * 1) }) 1 1] (List.length H) (H ++ [AObj.cells [Value.string x1] 9 [Value.string x1].length OMode.row]) = some (Value.int IntKind.i64 x16, H ++ [AObj.cells [Value.string x1] 9 [Value.string x1].length OMode.row])) ∧ ((x16 != 0) = true) ∧ e) (by kernel_rfl) ⟨h1, h2, rfl⟩ rfl
theorem f18_F_1 (x0 : Int) (x1 : ByteArray) (x2 : Int) (H : AHeap) (prot : Nat) (x16 : Int) (x23 : Array Value) (x9p : Nat) (x9o : Nat) (x9l : Nat) (H1 : AHeap) (H2 : AHeap) (x27 : Int) (z10a : Option Addr) (z10n : Nat) (z10c : Nat) (H3 : AHeap) (rv : Value) (rH : AHeap) (h1 : callInf cfg 26 [Value.int IntKind.i64 x0, Value.int IntKind.i64 x2, Value.slice (some { block := List.length H, off := 0, spot := some (1 * 1) }) 1 1] (List.length H) (H ++ [AObj.cells [Value.string x1] 9 [Value.string x1].length OMode.row]) = some (Value.int IntKind.i64 x16, H ++ [AObj.cells [Value.string x1] 9 [Value.string x1].length OMode.row])) (h2 : (x16 != 0) = false) (h3 : callInf cfg 30 [Value.int IntKind.i64 x0, Value.int IntKind.i64 x2, Value.string x1] (List.length H) (H ++ [AObj.cells [Value.string x1] 9 [Value.string x1].length OMode.row]) = some (Value.agg x23, H ++ [AObj.cells [Value.string x1] 9 [Value.string x1].length OMode.row])) (h4 : aalloc cfg.P 65 (H ++ [AObj.cells [Value.string x1] 9 [Value.string x1].length OMode.row]) = some (Value.pointer (some { block := x9p, off := x9o, spot := some x9l }), H1)) (h5 : x23.toList.length = 74) (h6 : setCells H1 (List.length H) x9p x9l x9o x23.toList = some H2) (h7 : Fit IntKind.i64 (x2 + 1)) (h8 : callInf cfg 32 [Value.int IntKind.i64 x0, Value.int IntKind.i64 (x2 + 1)] (List.length H) H2 = some (Value.int IntKind.i64 x27, H2)) (h9 : lpInf (lpOf cfg a18 0 prot H) ([Value.int IntKind.i64 x0, Value.pointer (some { block := x9p, off := x9o, spot := some x9l }), Value.slice none 0 0, Value.int IntKind.i64 x27, Value.int IntKind.i64 0], H2) = some (Ex.exit 0, [Value.slice z10a z10n z10c], H3)) (h10 : pfin a18 H [Value.slice z10a z10n z10c, Value.int IntKind.i64 0] H3 = (rv, rH)) : callInf cfg 18 [.int .i64 x0, .string x1, .int .i64 x2] prot H = some (rv, rH) :=
  fn_of' a18 [.e, .v (.int .i64 x16), .e, .b false, .v (.agg x23), .r (.pointer (some ⟨x9p, x9o, some x9l⟩)) H1, .h H2, .e, .v (.int .i64 x27), .lo (.exit 0, [.slice z10a z10n z10c], H3)] ((callInf cfg 26 [Value.int IntKind.i64 x0, Value.int IntKind.i64 x2, Value.slice (some { block := List.length H, off := 0, spot := some (1 * 1) }) 1 1] (List.length H) (H ++ [AObj.cells [Value.string x1] 9 [Value.string x1].length OMode.row]) = some (Value.int IntKind.i64 x16, H ++ [AObj.cells [Value.string x1] 9 [Value.string x1].length OMode.row])) ∧ ((x16 != 0) = false) ∧ (callInf cfg 30 [Value.int IntKind.i64 x0, Value.int IntKind.i64 x2, Value.string x1] (List.length H) (H ++ [AObj.cells [Value.string x1] 9 [Value.string x1].length OMode.row]) = some (Value.agg x23, H ++ [AObj.cells [Value.string x1] 9 [Value.string x1].length OMode.row])) ∧ (aalloc cfg.P 65 (H ++ [AObj.cells [Value.string x1] 9 [Value.string x1].length OMode.row]) = some (Value.pointer (some { block := x9p, off := x9o, spot := some x9l }), H1)) ∧ (x23.toList.length = 74) ∧ (setCells H1 (List.length H) x9p x9l x9o x23.toList = some H2) ∧ (Fit IntKind.i64 (x2 + 1)) ∧ (callInf cfg 32 [Value.int IntKind.i64 x0, Value.int IntKind.i64 (x2 + 1)] (List.length H) H2 = some (Value.int IntKind.i64 x27, H2)) ∧ (lpInf (lpOf cfg a18 0 prot H) ([Value.int IntKind.i64 x0, Value.pointer (some { block := x9p, off := x9o, spot := some x9l }), Value.slice none 0 0, Value.int IntKind.i64 x27, Value.int IntKind.i64 0], H2) = some (Ex.exit 0, [Value.slice z10a z10n z10c], H3)) ∧ (pfin a18 H [Value.slice z10a z10n z10c, Value.int IntKind.i64 0] H3 = (rv, rH))) (by kernel_rfl) ⟨h1, h2, h3, h4, h5, h6, h7, h8, h9, h10⟩ rfl
theorem f18_L0_0 (x0 : Int) (x9p : Nat) (x9o : Nat) (x9l : Nat) (x10a : Option Addr) (x10n : Nat) (x10c : Nat) (x27 : Int) (x28 : Int) (H0 : AHeap) (prot : Nat) (H : AHeap) (x32 : Bool) (x36 : ByteArray) (x38a : Option Addr) (x38n : Nat) (x38c : Nat) (H2 : AHeap) (h1 : x28 < x27) (h2 : callInf cfg 33 [Value.pointer (some { block := x9p, off := x9o, spot := some x9l }), Value.int IntKind.i64 x28] (List.length H0) H = some (Value.bool x32, H)) (h3 : x32 = true) (h4 : callInf cfg 34 [Value.int IntKind.i64 x0, Value.int IntKind.i64 x28] (List.length H0) H = some (Value.string x36, H)) (h5 : aappend cfg.P (List.length H0) true 22 22 (Value.slice x10a x10n x10c) (Value.slice (some { block := List.length H, off := 0, spot := some (1 * 1) }) 1 1) (H ++ [AObj.cells [Value.string x36] 9 [Value.string x36].length OMode.row]) = some (Value.slice x38a x38n x38c, H2)) (h6 : Fit IntKind.i64 (x28 + 1)) : lpOf cfg a18 0 prot H0 ([.int .i64 x0, .pointer (some ⟨x9p, x9o, some x9l⟩), .slice x10a x10n x10c, .int .i64 x27, .int .i64 x28], H) = some (Sum.inl ([Value.int IntKind.i64 x0, Value.pointer (some { block := x9p, off := x9o, spot := some x9l }), Value.slice x38a x38n x38c, Value.int IntKind.i64 x27, Value.int IntKind.i64 (x28 + 1)], H2)) :=
  lp_of [.e, .b true, .v (.bool x32), .b true, .v (.string x36), .e, .r (.slice x38a x38n x38c) H2, .e] (fun e => (decide (x28 < x27) = true) ∧ (callInf cfg 33 [Value.pointer (some { block := x9p, off := x9o, spot := some x9l }), Value.int IntKind.i64 x28] (List.length H0) H = some (Value.bool x32, H)) ∧ (x32 = true) ∧ (callInf cfg 34 [Value.int IntKind.i64 x0, Value.int IntKind.i64 x28] (List.length H0) H = some (Value.string x36, H)) ∧ (aappend cfg.P (List.length H0) true 22 22 (Value.slice x10a x10n x10c) (Value.slice (some { block := List.length H, off := 0, spot := some (1 * 1) }) 1 1) (H ++ [AObj.cells [Value.string x36] 9 [Value.string x36].length OMode.row]) = some (Value.slice x38a x38n x38c, H2)) ∧ (Fit IntKind.i64 (x28 + 1)) ∧ e) (by kernel_rfl) ⟨decide_eq_true h1, h2, h3, h4, h5, h6, rfl⟩
theorem f18_L0_1 (x0 : Int) (x9p : Nat) (x9o : Nat) (x9l : Nat) (x10a : Option Addr) (x10n : Nat) (x10c : Nat) (x27 : Int) (x28 : Int) (H0 : AHeap) (prot : Nat) (H : AHeap) (x32 : Bool) (h1 : x28 < x27) (h2 : callInf cfg 33 [Value.pointer (some { block := x9p, off := x9o, spot := some x9l }), Value.int IntKind.i64 x28] (List.length H0) H = some (Value.bool x32, H)) (h3 : x32 = false) (h4 : Fit IntKind.i64 (x28 + 1)) : lpOf cfg a18 0 prot H0 ([.int .i64 x0, .pointer (some ⟨x9p, x9o, some x9l⟩), .slice x10a x10n x10c, .int .i64 x27, .int .i64 x28], H) = some (Sum.inl ([Value.int IntKind.i64 x0, Value.pointer (some { block := x9p, off := x9o, spot := some x9l }), Value.slice x10a x10n x10c, Value.int IntKind.i64 x27, Value.int IntKind.i64 (x28 + 1)], H)) :=
  lp_of [.e, .b true, .v (.bool x32), .b false, .e] (fun e => (decide (x28 < x27) = true) ∧ (callInf cfg 33 [Value.pointer (some { block := x9p, off := x9o, spot := some x9l }), Value.int IntKind.i64 x28] (List.length H0) H = some (Value.bool x32, H)) ∧ (x32 = false) ∧ (Fit IntKind.i64 (x28 + 1)) ∧ e) (by kernel_rfl) ⟨decide_eq_true h1, h2, h3, h4, rfl⟩
theorem f18_L0_2 (x0 : Int) (x9p : Nat) (x9o : Nat) (x9l : Nat) (x10a : Option Addr) (x10n : Nat) (x10c : Nat) (x27 : Int) (x28 : Int) (H0 : AHeap) (prot : Nat) (H : AHeap) (h1 : ¬(x28 < x27)) : lpOf cfg a18 0 prot H0 ([.int .i64 x0, .pointer (some ⟨x9p, x9o, some x9l⟩), .slice x10a x10n x10c, .int .i64 x27, .int .i64 x28], H) = some (Sum.inr (Ex.exit 0, [Value.slice x10a x10n x10c], H)) :=
  lp_of [.e, .b false] (fun e => (decide (x28 < x27) = false) ∧ e) (by kernel_rfl) ⟨decide_eq_false h1, rfl⟩
end Go.Proofs.Ytedfombojnfbiaa.Am24
set_option linter.unusedVariables false
open Go Go.Proofs.Ytedfombojnfbiaa.Am
namespace Go.Proofs.Ytedfombojnfbiaa.Am24
theorem f19_F_0 (x0 : Int) (x1 : ByteArray) (x2 : Int) (H : AHeap) (prot : Nat) (x15 : Int) (h1 : callInf cfg 28 [Value.int IntKind.i64 x0, Value.int IntKind.i64 x2, Value.string x1, Value.string { data := { toList := [] } }] (List.length H) H = some (Value.int IntKind.i64 x15, H)) (h2 : (x15 != 0) = true) : callInf cfg 19 [.int .i64 x0, .string x1, .int .i64 x2] prot H = some (Value.tuple { toList := [Value.slice none 0 0, Value.int IntKind.i64 x15] }, H) :=
  fn_of a19 [.v (.int .i64 x15), .e, .b true] (fun e => (callInf cfg 28 [Value.int IntKind.i64 x0, Value.int IntKind.i64 x2, Value.string x1, Value.string { data := { toList := [] } }] (List.length H) H = some (Value.int IntKind.i64 x15, H)) ∧ ((x15 != 0) = true) ∧ e) (by kernel_rfl) ⟨h1, h2, rfl⟩ rfl
theorem f19_F_1 (x0 : Int) (x1 : ByteArray) (x2 : Int) (H : AHeap) (prot : Nat) (x15 : Int) (x21a : Option Addr) (x21n : Nat) (x21c : Nat) (H1 : AHeap) (z9a : Option Addr) (z9n : Nat) (z9c : Nat) (H2 : AHeap) (rv : Value) (rH : AHeap) (h1 : callInf cfg 28 [Value.int IntKind.i64 x0, Value.int IntKind.i64 x2, Value.string x1, Value.string { data := { toList := [] } }] (List.length H) H = some (Value.int IntKind.i64 x15, H)) (h2 : (x15 != 0) = false) (h3 : callInf cfg 35 [Value.int IntKind.i64 x0, Value.int IntKind.i64 x2] (List.length H) H = some (Value.slice x21a x21n x21c, H1)) (h4 : lpInf (lpOf cfg a19 0 prot H) ([Value.string x1, Value.slice none 0 0, Value.slice x21a x21n x21c, Value.int IntKind.i64 0], H1) = some (Ex.exit 0, [Value.slice z9a z9n z9c], H2)) (h5 : pfin a19 H [Value.slice z9a z9n z9c, Value.int IntKind.i64 0] H2 = (rv, rH)) : callInf cfg 19 [.int .i64 x0, .string x1, .int .i64 x2] prot H = some (rv, rH) :=
  fn_of' a19 [.v (.int .i64 x15), .e, .b false, .r (.slice x21a x21n x21c) H1, .lo (.exit 0, [.slice z9a z9n z9c], H2)] ((callInf cfg 28 [Value.int IntKind.i64 x0, Value.int IntKind.i64 x2, Value.string x1, Value.string { data := { toList := [] } }] (List.length H) H = some (Value.int IntKind.i64 x15, H)) ∧ ((x15 != 0) = false) ∧ (callInf cfg 35 [Value.int IntKind.i64 x0, Value.int IntKind.i64 x2] (List.length H) H = some (Value.slice x21a x21n x21c, H1)) ∧ (lpInf (lpOf cfg a19 0 prot H) ([Value.string x1, Value.slice none 0 0, Value.slice x21a x21n x21c, Value.int IntKind.i64 0], H1) = some (Ex.exit 0, [Value.slice z9a z9n z9c], H2)) ∧ (pfin a19 H [Value.slice z9a z9n z9c, Value.int IntKind.i64 0] H2 = (rv, rH))) (by kernel_rfl) ⟨h1, h2, h3, h4, h5⟩ rfl
theorem f19_L0_0 (x1 : ByteArray) (x9a : Option Addr) (x9n : Nat) (x9c : Nat) (x10a : Option Addr) (x10n : Nat) (x10c : Nat) (x11 : Int) (H0 : AHeap) (prot : Nat) (H : AHeap) (x30p : Nat) (x30o : Nat) (x30l : Nat) (x31 : ByteArray) (x33 : Bool) (x37p : Nat) (x37o : Nat) (x37l : Nat) (x38 : ByteArray) (x40a : Option Addr) (x40n : Nat) (x40c : Nat) (H2 : AHeap) (h1 : x11 < (↑x10n : Int)) (h2 : aindexAddr cfg.P 22 (Value.slice x10a x10n x10c) (Value.int IntKind.i64 x11) = some (Value.pointer (some { block := x30p, off := x30o, spot := some x30l }))) (h3 : getCells H x30p x30l x30o 1 = some [Value.string x31]) (h4 : callInf cfg 24 [Value.string x31, Value.string x1] (List.length H0) H = some (Value.bool x33, H)) (h5 : x33 = true) (h6 : aindexAddr cfg.P 22 (Value.slice x10a x10n x10c) (Value.int IntKind.i64 x11) = some (Value.pointer (some { block := x37p, off := x37o, spot := some x37l }))) (h7 : getCells H x37p x37l x37o 1 = some [Value.string x38]) (h8 : aappend cfg.P (List.length H0) true 22 22 (Value.slice x9a x9n x9c) (Value.slice (some { block := List.length H, off := 0, spot := some (1 * 1) }) 1 1) (H ++ [AObj.cells [Value.string x38] 9 [Value.string x38].length OMode.row]) = some (Value.slice x40a x40n x40c, H2)) (h9 : Fit IntKind.i64 (x11 + 1)) : lpOf cfg a19 0 prot H0 ([.string x1, .slice x9a x9n x9c, .slice x10a x10n x10c, .int .i64 x11], H) = some (Sum.inl ([Value.string x1, Value.slice x40a x40n x40c, Value.slice x10a x10n x10c, Value.int IntKind.i64 (x11 + 1)], H2)) :=
  lp_of [.e, .e, .b true, .v (.pointer (some ⟨x30p, x30o, some x30l⟩)), .v (.string x31), .v (.bool x33), .b true, .v (.pointer (some ⟨x37p, x37o, some x37l⟩)), .v (.string x38), .e, .r (.slice x40a x40n x40c) H2, .e] (fun e => (decide (x11 < (↑x10n : Int)) = true) ∧ (aindexAddr cfg.P 22 (Value.slice x10a x10n x10c) (Value.int IntKind.i64 x11) = some (Value.pointer (some { block := x30p, off := x30o, spot := some x30l }))) ∧ (getCells H x30p x30l x30o 1 = some [Value.string x31]) ∧ (callInf cfg 24 [Value.string x31, Value.string x1] (List.length H0) H = some (Value.bool x33, H)) ∧ (x33 = true) ∧ (aindexAddr cfg.P 22 (Value.slice x10a x10n x10c) (Value.int IntKind.i64 x11) = some (Value.pointer (some { block := x37p, off := x37o, spot := some x37l }))) ∧ (getCells H x37p x37l x37o 1 = some [Value.string x38]) ∧ (aappend cfg.P (List.length H0) true 22 22 (Value.slice x9a x9n x9c) (Value.slice (some { block := List.length H, off := 0, spot := some (1 * 1) }) 1 1) (H ++ [AObj.cells [Value.string x38] 9 [Value.string x38].length OMode.row]) = some (Value.slice x40a x40n x40c, H2)) ∧ (Fit IntKind.i64 (x11 + 1)) ∧ e) (by kernel_rfl) ⟨decide_eq_true h1, h2, h3, h4, h5, h6, h7, h8, h9, rfl⟩
theorem f19_L0_1 (x1 : ByteArray) (x9a : Option Addr) (x9n : Nat) (x9c : Nat) (x10a : Option Addr) (x10n : Nat) (x10c : Nat) (x11 : Int) (H0 : AHeap) (prot : Nat) (H : AHeap) (x30p : Nat) (x30o : Nat) (x30l : Nat) (x31 : ByteArray) (x33 : Bool) (h1 : x11 < (↑x10n : Int)) (h2 : aindexAddr cfg.P 22 (Value.slice x10a x10n x10c) (Value.int IntKind.i64 x11) = some (Value.pointer (some { block := x30p, off := x30o, spot := some x30l }))) (h3 : getCells H x30p x30l x30o 1 = some [Value.string x31]) (h4 : callInf cfg 24 [Value.string x31, Value.string x1] (List.length H0) H = some (Value.bool x33, H)) (h5 : x33 = false) (h6 : Fit IntKind.i64 (x11 + 1)) : lpOf cfg a19 0 prot H0 ([.string x1, .slice x9a x9n x9c, .slice x10a x10n x10c, .int .i64 x11], H) = some (Sum.inl ([Value.string x1, Value.slice x9a x9n x9c, Value.slice x10a x10n x10c, Value.int IntKind.i64 (x11 + 1)], H)) :=
  lp_of [.e, .e, .b true, .v (.pointer (some ⟨x30p, x30o, some x30l⟩)), .v (.string x31), .v (.bool x33), .b false, .e] (fun e => (decide (x11 < (↑x10n : Int)) = true) ∧ (aindexAddr cfg.P 22 (Value.slice x10a x10n x10c) (Value.int IntKind.i64 x11) = some (Value.pointer (some { block := x30p, off := x30o, spot := some x30l }))) ∧ (getCells H x30p x30l x30o 1 = some [Value.string x31]) ∧ (callInf cfg 24 [Value.string x31, Value.string x1] (List.length H0) H = some (Value.bool x33, H)) ∧ (x33 = false) ∧ (Fit IntKind.i64 (x11 + 1)) ∧ e) (by kernel_rfl) ⟨decide_eq_true h1, h2, h3, h4, h5, h6, rfl⟩
theorem f19_L0_2 (x1 : ByteArray) (x9a : Option Addr) (x9n : Nat) (x9c : Nat) (x10a : Option Addr) (x10n : Nat) (x10c : Nat) (x11 : Int) (H0 : AHeap) (prot : Nat) (H : AHeap) (h1 : ¬(x11 < (↑x10n : Int))) : lpOf cfg a19 0 prot H0 ([.string x1, .slice x9a x9n x9c, .slice x10a x10n x10c, .int .i64 x11], H) = some (Sum.inr (Ex.exit 0, [Value.slice x9a x9n x9c], H)) :=
  lp_of [.e, .e, .b false] (fun e => (decide (x11 < (↑x10n : Int)) = false) ∧ e) (by kernel_rfl) ⟨decide_eq_false h1, rfl⟩
end Go.Proofs.Ytedfombojnfbiaa.Am24
set_option linter.unusedVariables false
open Go Go.Proofs.Ytedfombojnfbiaa.Am
namespace Go.Proofs.Ytedfombojnfbiaa.Am24
theorem f12_F_0 (x0a : Option Addr) (x0n : Nat) (x0c : Nat) (x1a : Option Addr) (x1n : Nat) (x1c : Nat) (H : AHeap) (prot : Nat) (h1 : ((↑x0n : Int) != (↑x1n : Int)) = true) : callInf cfg 12 [.slice x0a x0n x0c, .slice x1a x1n x1c] prot H = some (Value.bool false, H) :=
  fn_of a12 [.e, .e, .e, .b true] (fun e => (((↑x0n : Int) != (↑x1n : Int)) = true) ∧ e) (by kernel_rfl) ⟨h1, rfl⟩ rfl
theorem f12_F_1 (x0a : Option Addr) (x0n : Nat) (x0c : Nat) (x1a : Option Addr) (x1n : Nat) (x1c : Nat) (H : AHeap) (prot : Nat) (z4 : Value) (H1 : AHeap) (h1 : ((↑x0n : Int) != (↑x1n : Int)) = false) (h2 : lpInf (lpOf cfg a12 0 prot H) ([Value.slice x0a x0n x0c, Value.slice x1a x1n x1c, Value.int IntKind.i64 0], H) = some (Ex.exit 0, [z4], H1)) : callInf cfg 12 [.slice x0a x0n x0c, .slice x1a x1n x1c] prot H = some (Value.bool true, H) :=
  fn_of a12 [.e, .e, .e, .b false, .lo (.exit 0, [z4], H1)] (fun e => (((↑x0n : Int) != (↑x1n : Int)) = false) ∧ (lpInf (lpOf cfg a12 0 prot H) ([Value.slice x0a x0n x0c, Value.slice x1a x1n x1c, Value.int IntKind.i64 0], H) = some (Ex.exit 0, [z4], H1)) ∧ e) (by kernel_rfl) ⟨h1, h2, rfl⟩ rfl
theorem f12_F_2 (x0a : Option Addr) (x0n : Nat) (x0c : Nat) (x1a : Option Addr) (x1n : Nat) (x1c : Nat) (H : AHeap) (prot : Nat) (z4 : Bool) (H1 : AHeap) (h1 : ((↑x0n : Int) != (↑x1n : Int)) = false) (h2 : lpInf (lpOf cfg a12 0 prot H) ([Value.slice x0a x0n x0c, Value.slice x1a x1n x1c, Value.int IntKind.i64 0], H) = some (Ex.ret, [Value.bool z4], H1)) : callInf cfg 12 [.slice x0a x0n x0c, .slice x1a x1n x1c] prot H = some (Value.bool z4, H) :=
  fn_of a12 [.e, .e, .e, .b false, .lo (.ret, [.bool z4], H1)] (fun e => (((↑x0n : Int) != (↑x1n : Int)) = false) ∧ (lpInf (lpOf cfg a12 0 prot H) ([Value.slice x0a x0n x0c, Value.slice x1a x1n x1c, Value.int IntKind.i64 0], H) = some (Ex.ret, [Value.bool z4], H1)) ∧ e) (by kernel_rfl) ⟨h1, h2, rfl⟩ rfl
theorem f12_L0_0 (x0a : Option Addr) (x0n : Nat) (x0c : Nat) (x1a : Option Addr) (x1n : Nat) (x1c : Nat) (x5 : Int) (H0 : AHeap) (prot : Nat) (H : AHeap) (x19p : Nat) (x19o : Nat) (x19l : Nat) (x20 : ByteArray) (x23p : Nat) (x23o : Nat) (x23l : Nat) (x24 : ByteArray) (h1 : x5 < (↑x0n : Int)) (h2 : aindexAddr cfg.P 22 (Value.slice x0a x0n x0c) (Value.int IntKind.i64 x5) = some (Value.pointer (some { block := x19p, off := x19o, spot := some x19l }))) (h3 : getCells H x19p x19l x19o 1 = some [Value.string x20]) (h4 : aindexAddr cfg.P 22 (Value.slice x1a x1n x1c) (Value.int IntKind.i64 x5) = some (Value.pointer (some { block := x23p, off := x23o, spot := some x23l }))) (h5 : getCells H x23p x23l x23o 1 = some [Value.string x24]) (h6 : (!x20.toList == x24.toList) = true) : lpOf cfg a12 0 prot H0 ([.slice x0a x0n x0c, .slice x1a x1n x1c, .int .i64 x5], H) = some (Sum.inr (Ex.ret, [Value.bool false], H)) :=
  lp_of [.e, .e, .b true, .v (.pointer (some ⟨x19p, x19o, some x19l⟩)), .v (.string x20), .v (.pointer (some ⟨x23p, x23o, some x23l⟩)), .v (.string x24), .e, .b true] (fun e => (decide (x5 < (↑x0n : Int)) = true) ∧ (aindexAddr cfg.P 22 (Value.slice x0a x0n x0c) (Value.int IntKind.i64 x5) = some (Value.pointer (some { block := x19p, off := x19o, spot := some x19l }))) ∧ (getCells H x19p x19l x19o 1 = some [Value.string x20]) ∧ (aindexAddr cfg.P 22 (Value.slice x1a x1n x1c) (Value.int IntKind.i64 x5) = some (Value.pointer (some { block := x23p, off := x23o, spot := some x23l }))) ∧ (getCells H x23p x23l x23o 1 = some [Value.string x24]) ∧ ((!x20.toList == x24.toList) = true) ∧ e) (by kernel_rfl) ⟨decide_eq_true h1, h2, h3, h4, h5, h6, rfl⟩
theorem f12_L0_1 (x0a : Option Addr) (x0n : Nat) (x0c : Nat) (x1a : Option Addr) (x1n : Nat) (x1c : Nat) (x5 : Int) (H0 : AHeap) (prot : Nat) (H : AHeap) (x19p : Nat) (x19o : Nat) (x19l : Nat) (x20 : ByteArray) (x23p : Nat) (x23o : Nat) (x23l : Nat) (x24 : ByteArray) (h1 : x5 < (↑x0n : Int)) (h2 : aindexAddr cfg.P 22 (Value.slice x0a x0n x0c) (Value.int IntKind.i64 x5) = some (Value.pointer (some { block := x19p, off := x19o, spot := some x19l }))) (h3 : getCells H x19p x19l x19o 1 = some [Value.string x20]) (h4 : aindexAddr cfg.P 22 (Value.slice x1a x1n x1c) (Value.int IntKind.i64 x5) = some (Value.pointer (some { block := x23p, off := x23o, spot := some x23l }))) (h5 : getCells H x23p x23l x23o 1 = some [Value.string x24]) (h6 : (!x20.toList == x24.toList) = false) (h7 : Fit IntKind.i64 (x5 + 1)) : lpOf cfg a12 0 prot H0 ([.slice x0a x0n x0c, .slice x1a x1n x1c, .int .i64 x5], H) = some (Sum.inl ([Value.slice x0a x0n x0c, Value.slice x1a x1n x1c, Value.int IntKind.i64 (x5 + 1)], H)) :=
  lp_of [.e, .e, .b true, .v (.pointer (some ⟨x19p, x19o, some x19l⟩)), .v (.string x20), .v (.pointer (some ⟨x23p, x23o, some x23l⟩)), .v (.string x24), .e, .b false, .e] (fun e => (decide (x5 < (↑x0n : Int)) = true) ∧ (aindexAddr cfg.P 22 (Value.slice x0a x0n x0c) (Value.int IntKind.i64 x5) = some (Value.pointer (some { block := x19p, off := x19o, spot := some x19l }))) ∧ (getCells H x19p x19l x19o 1 = some [Value.string x20]) ∧ (aindexAddr cfg.P 22 (Value.slice x1a x1n x1c) (Value.int IntKind.i64 x5) = some (Value.pointer (some { block := x23p, off := x23o, spot := some x23l }))) ∧ (getCells H x23p x23l x23o 1 = some [Value.string x24]) ∧ ((!x20.toList == x24.toList) = false) ∧ (Fit IntKind.i64 (x5 + 1)) ∧ e) (by kernel_rfl) ⟨decide_eq_true h1, h2, h3, h4, h5, h6, h7, rfl⟩
theorem f12_L0_2 (x0a : Option Addr) (x0n : Nat) (x0c : Nat) (x1a : Option Addr) (x1n : Nat) (x1c : Nat) (x5 : Int) (H0 : AHeap) (prot : Nat) (H : AHeap) (h1 : ¬(x5 < (↑x0n : Int))) : lpOf cfg a12 0 prot H0 ([.slice x0a x0n x0c, .slice x1a x1n x1c, .int .i64 x5], H) = some (Sum.inr (Ex.exit 0, [Value.tuple { toList := [] }], H)) :=
  lp_of [.e, .e, .b false] (fun e => (decide (x5 < (↑x0n : Int)) = false) ∧ e) (by kernel_rfl) ⟨decide_eq_false h1, rfl⟩
end Go.Proofs.Ytedfombojnfbiaa.Am24
namespace Go.Proofs.Ytedfombojnfbiaa.Am24
open Go Go.Proofs.Ytedfombojnfbiaa.Am

/-- The words from number i on, among d, that are pieces. -/
def pcs (k : Nat) (w : ByteArray) : Nat → Nat → List ByteArray
  | 0, _ => []
  | d + 1, i => if isP (txt k i) w then txt k i :: pcs k w d (i + 1) else pcs k w d (i + 1)
theorem pcs_len (k : Nat) (w : ByteArray) : ∀ d i, (pcs k w d i).length ≤ d
  | 0, _ => Nat.le_refl _
  | d + 1, i => by
    have := pcs_len k w d (i + 1)
    simp only [pcs]
    split
    · simp only [List.length_cons]; omega
    · omega

theorem loop18 {k n : Nat} (hk1 : 1 ≤ k) (hk : k ≤ 8) (hn : n ≤ 4) {w : ByteArray} (hw : Wd k w) (p : Nat) (H0 : AHeap) (prot : Nat) : ∀ (d i : Nat) (x : Value) (o : Option Nat) (m : Nat) (l : List ByteArray) (H : AHeap), i + d = sho k (n + 1) → m ≤ i →
    H[p]? = some (kobj (kindOf k n w)) → Own H 9 1 x o m (sc l) → (∀ id, o = some id → p < id) → H0.length ≤ p →
    ∃ a' n' c' o' H', lpInf (lpOf cfg a18 0 prot H0) ([.int .i64 k, .pointer (some ⟨p, 0, some 74⟩), x, .int .i64 (sho k (n + 1) : Nat), .int .i64 i], H) = some (.exit 0, [.slice a' n' c'], H') ∧ Own H' 9 1 (.slice a' n' c') o' n' (sc (l ++ pcs k w d i)) ∧ (∀ id, o' = some id → H0.length ≤ id)
  | 0, i, x, o, m, l, H, hi, hm, hp, hx, ho, hpH => by
    obtain ⟨a, c, rfl⟩ := hx.len
    refine ⟨a, m, c, o, H, lp_last (f18_L0_2 k p 0 74 a m c (sho k (n + 1) : Nat) i H0 prot H (by omega)), ?_, fun id h => by have := ho id h; omega⟩
    simp only [pcs, List.append_nil]
    exact hx
  | d + 1, i, x, o, m, l, H, hi, hm, hp, hx, ho, hpH => by
    obtain ⟨a, c, rfl⟩ := hx.len
    have hr := sho_room hk hn
    have hss := sho_succ k n
    have hlt := (List.getElem?_eq_some_iff.1 hp).1
    have h1 := c33 (kindOf_ok k n w) hp (Nat.le_refl _) (i := i) (by omega) H0.length
    rw [kind_bits hk1 hk hn hw (by omega)] at h1
    by_cases he : isP (txt k i) w = true
    · obtain ⟨a', c', o', H', g1, g2, g3, g4, g5, g6⟩ := own_app T22 hx (ecs := [.string (txt k i)]) rfl rfl (prot := H0.length) (room := true) (fun id h => by have := ho id h; omega) (by omega) (by omega) (L := 1 * 1) rfl (el := [Value.string (txt k i)].length) rfl
      have step := f18_L0_0 k p 0 74 a m c (sho k (n + 1) : Nat) i H0 prot H _ _ a' (m + 1) c' H' (by omega) h1 he (txt_call hk1 hk hn (by omega) _ _) g1 (fit64 (by omega) (by omega))
      have hw' : sc l ++ [.string (txt k i)] = sc (l ++ [txt k i]) := by rw [sc_append]; rfl
      rw [hw'] at g2
      obtain ⟨a2, n2, c2, o2, H2, q1, q2, q3⟩ := loop18 hk1 hk hn hw p H0 prot d (i + 1) _ (some o') (m + 1) (l ++ [txt k i]) H' (by omega) (by omega)
        (by rw [g3.2 p hlt (fun e => by have := ho p e; omega)]; exact hp) g2 (fun id h => by
          cases h
          cases o with
          | none => have := g5 rfl; omega
          | some oid => rw [g6 oid rfl]; exact ho oid rfl) hpH
      refine ⟨a2, n2, c2, o2, H2, lp_next step q1, ?_, q3⟩
      rw [show pcs k w (d + 1) i = txt k i :: pcs k w d (i + 1) by simp only [pcs]; rw [if_pos he]]
      simpa using q2
    · have step := f18_L0_1 k p 0 74 a m c (sho k (n + 1) : Nat) i H0 prot H _ (by omega) h1 (by simpa using he) (fit64 (by omega) (by omega))
      obtain ⟨a2, n2, c2, o2, H2, q1, q2, q3⟩ := loop18 hk1 hk hn hw p H0 prot d (i + 1) _ o m l H (by omega) (by omega) hp hx ho hpH
      refine ⟨a2, n2, c2, o2, H2, lp_next step q1, ?_, q3⟩
      rw [show pcs k w (d + 1) i = pcs k w d (i + 1) by simp only [pcs]; rw [if_neg he]]
      exact q2

/-- What Pieces answers. -/
def pcsV (k n : Int) (w : ByteArray) : List ByteArray × Int :=
  if pchk k n [w] = 0 then (pcs k.toNat w (sho k.toNat (n.toNat + 1)) 0, 0) else ([], pchk k n [w])

theorem c18 (k n : Int) (w : ByteArray) (hs : w.size < 9223372036854775807) (prot : Nat) (H : AHeap) :
    ∃ a' n' c' o' H', callInf cfg 18 [.int .i64 k, .string w, .int .i64 n] prot H = some (.tuple #[.slice a' n' c', .int .i64 (pcsV k n w).2], H') ∧ Own H' 9 1 (.slice a' n' c') o' n' (sc (pcsV k n w).1) ∧ Stay none H H' ∧ (∀ id, o' = some id → H.length ≤ id) := by
  let H1 := H ++ [AObj.cells (sc [w]) 9 (sc [w]).length .row]
  have l1 : H1.length = H.length + 1 := by simp [H1]
  have hc := c26 (k := k) (n := n) (l := [w]) H.length H1 (own_new (H := H) (e := 9) (s := 1) (n := 1) (cs := sc [w]) rfl (by omega) (L := 1 * 1) rfl rfl) (by omega)
  unfold pcsV
  by_cases h0 : pchk k n [w] = 0
  · rw [if_pos h0]
    rw [h0] at hc
    obtain ⟨a1, a2, a3, a4, a5⟩ := pchk_ok h0
    obtain ⟨k, rfl⟩ : ∃ k' : Nat, k = k' := ⟨k.toNat, by omega⟩
    obtain ⟨n, rfl⟩ : ∃ n' : Nat, n = n' := ⟨n.toNat, by omega⟩
    rw [Int.toNat_natCast] at a5
    have ww : Wd k w := a5 w (by simp)
    have hk : k ≤ 8 := by omega
    have hn : n ≤ 4 := by omega
    let H2 := H1 ++ [kobj (List.replicate 74 0)]
    have l2 : H2.length = H.length + 2 := by simp [H2, l1]
    have g1 : H2[H1.length]? = some (kobj (List.replicate 74 0)) := append_get.1
    let H3 := H2.set H1.length (kobj (kindOf k n w))
    have g13 : H3[H1.length]? = some (kobj (kindOf k n w)) := get_set_self g1
    have l3 : H3.length = H.length + 2 := by simp [H3, l2]
    obtain ⟨a', n', c', o', H4, q1, q2, q3⟩ := loop18 (by omega) hk hn ww H1.length H prot (sho k (n + 1)) 0 (.slice none 0 0) none 0 [] H3 (by omega) (by omega) g13 own_nil (fun id h => by cases h) (by omega)
    have e11 : (n : Int) + 1 = ((n + 1 : Nat) : Int) := by omega
    have h12 := c32 hk (n := n + 1) (by omega) H.length H3
    rw [← e11] at h12
    have hlen : ∀ ws, KOK ws → (kc ws).toArray.toList.length = 74 := fun ws h => by show (kc ws).length = 74; rw [kc_len, h.1]
    rw [Int.toNat_natCast, Int.toNat_natCast]
    obtain ⟨x', o2, H5, r1, r2, r3, r4, _⟩ := gc_row (H := H) q2 q3 (sc_plain _) (ps := [.int .i64 0]) rfl
    obtain ⟨a2, c2, rfl⟩ := r2.len
    refine ⟨a2, n', c2, o2, H5, f18_F_1 k w n H prot 0 (kc (kindOf k n w)).toArray H1.length 0 74 H2 H3 _ a' n' c' H4 _ H5 hc rfl (c30 hk hn ww hs _ _) (alloc65 H1)
        (hlen _ (kindOf_ok _ _ _)) (kset_all zeroOK (kindOf_ok _ _ _) g1 (by omega)) (fit64 (by omega) (by omega)) h12 q1 ?_, ?_, r3, r4⟩
    · rw [pfin_eq]; exact r1
    · simpa using r2
  · rw [if_neg h0]
    exact ⟨none, 0, 0, none, H, f18_F_0 k w n H prot _ hc (by simpa using h0), own_nil, Stay.refl _ _, fun id h => by cases h⟩

theorem loop19 {k n : Nat} (hk1 : 1 ≤ k) (hk : k ≤ 8) (hn : n ≤ 4) {w : ByteArray} (hs : w.size < 9223372036854775807) {y : Value} {oy : Nat} (H0 : AHeap) (prot : Nat) : ∀ (d i : Nat) (x : Value) (o : Option Nat) (m : Nat) (l : List ByteArray) (H : AHeap), i + d = sho k (n + 1) → m ≤ i →
    Own H 9 1 y (some oy) (sho k (n + 1)) (sc (wds k (sho k (n + 1)))) → Own H 9 1 x o m (sc l) → (∀ id, o = some id → oy < id) → H0.length ≤ oy →
    ∃ a' n' c' o' H', lpInf (lpOf cfg a19 0 prot H0) ([.string w, x, y, .int .i64 i], H) = some (.exit 0, [.slice a' n' c'], H') ∧ Own H' 9 1 (.slice a' n' c') o' n' (sc (l ++ pcs k w d i)) ∧ (∀ id, o' = some id → H0.length ≤ id)
  | 0, i, x, o, m, l, H, hi, hm, hy, hx, ho, hpH => by
    obtain ⟨a, c, rfl⟩ := hx.len
    obtain ⟨ya, yc, rfl⟩ := hy.len
    refine ⟨a, m, c, o, H, lp_last (f19_L0_2 w a m c ya _ yc i H0 prot H (by omega)), ?_, fun id h => by have := ho id h; omega⟩
    simp only [pcs, List.append_nil]
    exact hx
  | d + 1, i, x, o, m, l, H, hi, hm, hy, hx, ho, hpH => by
    obtain ⟨a, c, rfl⟩ := hx.len
    obtain ⟨ya, yc, rfl⟩ := hy.len
    have hr := sho_room hk hn
    have hss := sho_succ k n
    have hil : i < sho k (n + 1) := by omega
    obtain ⟨id, hid, g1, g2⟩ := own_at T22 hy (sc_get (wds_get hil))
    cases hid
    have hts := txt_size hk1 hil
    have h1 := c24 (txt k i) w (by omega) hs H0.length H
    have hlt : oy < H.length := (List.getElem?_eq_some_iff.1 hy.2.2.2.choose_spec.2).1
    by_cases he : isP (txt k i) w = true
    · obtain ⟨a', c', o', H', q1, q2, q3, q4, q5, q6⟩ := own_app T22 hx (ecs := [.string (txt k i)]) rfl rfl (prot := H0.length) (room := true) (fun id h => by have := ho id h; omega) (by omega) (by omega) (L := 1 * 1) rfl (el := [Value.string (txt k i)].length) rfl
      have step := f19_L0_0 w a m c ya _ yc i H0 prot H oy i _ (txt k i) _ oy i _ (txt k i) a' (m + 1) c' H' (by omega) g1 g2 h1 he g1 g2 q1 (fit64 (by omega) (by omega))
      have hw' : sc l ++ [.string (txt k i)] = sc (l ++ [txt k i]) := by rw [sc_append]; rfl
      rw [hw'] at q2
      obtain ⟨a2, n2, c2, o2, H2, p1, p2, p3⟩ := loop19 hk1 hk hn hs H0 prot d (i + 1) _ (some o') (m + 1) (l ++ [txt k i]) H' (by omega) (by omega)
        (hy.stay q3 (fun id h e => by cases h; have := ho oy e; omega)) q2 (fun id h => by
          cases h
          cases o with
          | none => have := q5 rfl; omega
          | some oid => rw [q6 oid rfl]; exact ho oid rfl) hpH
      refine ⟨a2, n2, c2, o2, H2, lp_next step p1, ?_, p3⟩
      rw [show pcs k w (d + 1) i = txt k i :: pcs k w d (i + 1) by simp only [pcs]; rw [if_pos he]]
      simpa using p2
    · have step := f19_L0_1 w a m c ya _ yc i H0 prot H oy i _ (txt k i) _ (by omega) g1 g2 h1 (by simpa using he) (fit64 (by omega) (by omega))
      obtain ⟨a2, n2, c2, o2, H2, p1, p2, p3⟩ := loop19 hk1 hk hn hs H0 prot d (i + 1) _ o m l H (by omega) (by omega) hy hx ho hpH
      refine ⟨a2, n2, c2, o2, H2, lp_next step p1, ?_, p3⟩
      rw [show pcs k w (d + 1) i = pcs k w d (i + 1) by simp only [pcs]; rw [if_neg he]]
      exact p2

theorem pchk_empty (k n : Int) (w : ByteArray) : pchk k n [w, ⟨#[]⟩] = pchk k n [w] := by
  unfold pchk
  split
  · rfl
  · rename_i h
    split
    · rfl
    · have : chk k ⟨#[]⟩ = 0 := by unfold chk; rw [if_neg h]; rfl
      simp only [chks, this, if_true]

theorem c19 (k n : Int) (w : ByteArray) (hs : w.size < 9223372036854775807) (prot : Nat) (H : AHeap) :
    ∃ a' n' c' o' H', callInf cfg 19 [.int .i64 k, .string w, .int .i64 n] prot H = some (.tuple #[.slice a' n' c', .int .i64 (pcsV k n w).2], H') ∧ Own H' 9 1 (.slice a' n' c') o' n' (sc (pcsV k n w).1) ∧ Stay none H H' ∧ (∀ id, o' = some id → H.length ≤ id) := by
  have hc := c28 k n w ⟨#[]⟩ hs (by show 0 < _; omega) H.length H
  rw [pchk_empty] at hc
  unfold pcsV
  by_cases h0 : pchk k n [w] = 0
  · rw [if_pos h0]
    rw [h0] at hc
    obtain ⟨a1, a2, a3, a4, a5⟩ := pchk_ok h0
    obtain ⟨k, rfl⟩ : ∃ k' : Nat, k = k' := ⟨k.toNat, by omega⟩
    obtain ⟨n, rfl⟩ : ∃ n' : Nat, n = n' := ⟨n.toNat, by omega⟩
    have hk : k ≤ 8 := by omega
    have hn : n ≤ 4 := by omega
    obtain ⟨x, H1, s1, s2, s3⟩ := c35 (k := k) (n := n) (by omega) (by omega) (by omega) H.length H
    obtain ⟨xa, xc, rfl⟩ := s2.len
    obtain ⟨a', n', c', o', H4, q1, q2, q3⟩ := loop19 (by omega) hk hn hs H prot (sho k (n + 1)) 0 (.slice none 0 0) none 0 [] H1 (by omega) (by omega) s2 own_nil (fun id h => by cases h) (by omega)
    rw [Int.toNat_natCast, Int.toNat_natCast]
    obtain ⟨x', o2, H5, r1, r2, r3, r4, _⟩ := gc_row (H := H) q2 q3 (sc_plain _) (ps := [.int .i64 0]) rfl
    obtain ⟨a2, c2, rfl⟩ := r2.len
    refine ⟨a2, n', c2, o2, H5, f19_F_1 k w n H prot 0 xa _ xc H1 a' n' c' H4 _ H5 hc rfl s1 q1 ?_, ?_, r3, r4⟩
    · rw [pfin_eq]; exact r1
    · simpa using r2
  · rw [if_neg h0]
    exact ⟨none, 0, 0, none, H, f19_F_0 k w n H prot _ hc (by simpa using h0), own_nil, Stay.refl _ _, fun id h => by cases h⟩
end Go.Proofs.Ytedfombojnfbiaa.Am24
