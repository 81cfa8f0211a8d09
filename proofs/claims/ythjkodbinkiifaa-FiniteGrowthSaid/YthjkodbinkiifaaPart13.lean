/- A part of the proof of a given statement: Sp23_C55, AmHtW, P23_57, Sp23_C57, S23g_Aq, S23g_E, P23g_63, S23g_F, S23g_G, S23g_W, Law23g_4, S23g_P, AmSets, S23g_Q, Sp23_Ed, P23_3, Law23_3, Sp23_Lg, P23_30, Sp23_C30, P23_31, Sp23_C31, Sp23_Gr, P23_44, Sp23_C44, P23_27, P23_51, P23_68, P23_69, Sp23_C27, P23_28, P23_52, P23_70. No condition. -/
import Derived.Test.YthjkodbinkiifaaPart12
namespace Go.Proofs.Ythjkodbinkiifaa.Am23
open Go Go.Proofs.Ythjkodbinkiifaa.Am
open Am23g (addE Out Mine out_start gc_mine Gr nl)
/-! Longest: the memo and the walk. -/
def faL (F : Nat → Nat) (N : Nat) : List Int := nl ((List.range N).map F)
theorem faL_len (F : Nat → Nat) (N : Nat) : (faL F N).length = N := by simp [faL, nl]
theorem faL_get {F : Nat → Nat} {N u : Nat} (h : u < N) : (il (faL F N))[u]? = some (.int .i64 ((F u : Nat) : Int)) := by
 unfold il faL nl
 rw [List.getElem?_map, List.getElem?_map, List.getElem?_map, List.getElem?_range h]; rfl
def stF (F : Nat → Nat) (u c : Nat) : Nat → Nat := fun x => if x = u then c else F x
theorem faL_put {F : Nat → Nat} {N u : Nat} (c : Nat) (h : u < N) : putList (il (faL F N)) (u * 1 + 0) [.int .i64 ((c : Nat) : Int)] = il (faL (stF F u c) N) := by
 rw [Nat.mul_one, Nat.add_zero, put_one _ (by simp [il, faL_len]; exact h)]
 unfold il faL nl
 apply List.ext_getElem?
 intro x
 by_cases e : x = u
 ·subst e
  rw [List.getElem?_set_self (by simp; exact h), List.getElem?_map, List.getElem?_map, List.getElem?_map, List.getElem?_range h]
  simp [stF]
 ·rw [List.getElem?_set_ne (fun h => e h.symm)]
  simp only [List.getElem?_map]
  by_cases hx : x < N
  ·rw [List.getElem?_range hx]; simp [stF, e]
  ·rw [List.getElem?_eq_none (by simp; omega)]; rfl
/-- Rows that stand apart from what is written. -/
def RowsA (H : AHeap) (xg : Value) (n : Nat) (T : Nat → List Nat) (od : Nat) : Prop :=
 ∃ cs, Rd H 22 1 xg n cs ∧ ∀ j, j < n → ∃ r, cs[j]? = some r ∧ Rd H 3 1 r (T j).length (il (nl (T j))) ∧ ∀ id off L m c, r = .slice (some ⟨id, off, some L⟩) m c → some od ≠ some id
theorem RowsA.stay {H H' : AHeap} {xg : Value} {n : Nat} {T : Nat → List Nat} {od : Nat} (h : RowsA H xg n T od) (s : Stay none H H') : RowsA H' xg n T od := by
 obtain ⟨cs, h1, h2⟩ := h
 exact ⟨cs, h1.stay s, fun j hj => by obtain ⟨r, a, b, c⟩ := h2 j hj; exact ⟨r, a, b.stay s, c⟩⟩
theorem RowsA.over {H H' : AHeap} {xg : Value} {n : Nat} {T : Nat → List Nat} {od wr : Nat} {l : List Value} {md : OMode} (h : RowsA H xg n T od) (g : H[od]? = some (.cells l 3 wr md)) (s : Stay (some od) H H') : RowsA H' xg n T od := by
 obtain ⟨cs, h1, h2⟩ := h
 exact ⟨cs, h1.stayE g (by decide) s, fun j hj => by obtain ⟨r, a, b, c⟩ := h2 j hj; exact ⟨r, a, b.stayNe s c, c⟩⟩
abbrev fLo (p1 p2 p3 : Nat) : Value := .func (.func 55) #[] #[.pointer (some ⟨p1, 0, some 1⟩), .pointer (some ⟨p2, 0, some 1⟩), .pointer (some ⟨p3, 0, some 1⟩)]
theorem one_get {H : AHeap} {p e : Nat} {v : Value} {md : OMode} (h : H[p]? = some (.cells [v] e 1 md)) : getCells H p 1 0 1 = some [v] := by
 unfold getCells
 rw [h]
 rfl
structure WM (fc : Value) (B : Nat) (H : AHeap) (n : Nat) (T : Nat → List Nat) (g : Nat → Nat) (xd xg : Value) (od p1 p2 p3 : Nat) (D : Nat → Nat) : Prop where
 g1 : H[p1]? = some (.cells [xd] 22 1 .var)
 g2 : H[p2]? = some (.cells [xg] 86 1 .var)
 g3 : H[p3]? = some (.cells [fc] 82 1 .var)
 dp : Own H 3 1 xd (some od) n (il (faL D n))
 rd : RowsA H xg n T od
 n1 : od ≠ p1
 n2 : od ≠ p2
 n3 : od ≠ p3
 lo : B ≤ od
 ok : ∀ c, c < n → D c = 0 ∨ D c = g c
/-- One value is noted. -/
theorem WM.put {fc : Value} {B : Nat} {H : AHeap} {n : Nat} {T : Nat → List Nat} {g : Nat → Nat} {xd xg : Value} {od p1 p2 p3 : Nat} {D : Nat → Nat} (w : WM fc B H n T g xd xg od p1 p2 p3 D) {c : Nat} (hc : c < n) {prot : Nat} (hp : prot ≤ od) :
  ∃ L H', aindexAddr cfg.P 22 xd (.int .i64 (c : Nat)) = some (.pointer (some ⟨od, c, some L⟩)) ∧ setCells H prot od L c [.int .i64 ((g c : Nat) : Int)] = some H' ∧ WM fc B H' n T g xd xg od p1 p2 p3 (stF D c (g c)) ∧ Stay (some od) H H' := by
 obtain ⟨id, H2, e, s1, s2, s3, s4, s5⟩ := own_setS T22 w.dp (i := c) (j := 0) hc (vs := [.int .i64 ((g c : Nat) : Int)]) (by simp) rfl (prot := prot) (fun id e => by cases e; exact hp)
 cases e
 rw [faL_put _ hc] at s3
 rw [Nat.mul_one] at s1
 rw [Nat.mul_one, Nat.add_zero] at s2
 obtain ⟨_, _, _, _, _, gd⟩ := w.dp
 refine ⟨_, H2, s1, s2, ⟨?_, ?_, ?_, s3, w.rd.over gd s4, w.n1, w.n2, w.n3, w.lo, fun v hv => ?_⟩, s4⟩
 ·rw [s4.2 _ (List.getElem?_eq_some_iff.1 w.g1).1 (fun e => w.n1 (Option.some.inj e))]; exact w.g1
 ·rw [s4.2 _ (List.getElem?_eq_some_iff.1 w.g2).1 (fun e => w.n2 (Option.some.inj e))]; exact w.g2
 ·rw [s4.2 _ (List.getElem?_eq_some_iff.1 w.g3).1 (fun e => w.n3 (Option.some.inj e))]; exact w.g3
 ·unfold stF
  split
  ·rename_i e; subst e; exact .inr rfl
  ·exact w.ok v hv
theorem loop55 {B n : Nat} {T : Nat → List Nat} {h : Nat → Nat} (hn : n ≤ 512) (hh : Ht (fun c d => decide (d ∈ T c)) n h) (hT : ∀ c d, d ∈ T c → d < n ∧ d ≠ c) (hTl : ∀ c, (T c).length ≤ 1000000) {xd xg : Value} {od p1 p2 p3 prot c : Nat} (hp : prot ≤ od) (hc : c < n)
  (ih : ∀ d H D, d < n → h d < h c → WM (fLo p1 p2 p3) B H n T (fun c => h c + 1) xd xg od p1 p2 p3 D → ∃ D' H', callInf cfg 55 [.int .i64 d, .pointer (some ⟨p1, 0, some 1⟩), .pointer (some ⟨p2, 0, some 1⟩), .pointer (some ⟨p3, 0, some 1⟩)] prot H = some (.int .i64 ((h d + 1 : Nat) : Int), H') ∧ WM (fLo p1 p2 p3) B H' n T (fun c => h c + 1) xd xg od p1 p2 p3 D' ∧ Stay (some od) H H')
  {H0 : AHeap} {x : Value} (hne : ∀ id off L n' c, x = .slice (some ⟨id, off, some L⟩) n' c → some od ≠ some id) : ∀ (d i m : Nat) (H : AHeap) (D : Nat → Nat), i + d = (T c).length → Rd H 3 1 x (T c).length (il (nl (T c))) → WM (fLo p1 p2 p3) B H n T (fun c => h c + 1) xd xg od p1 p2 p3 D →
   (∀ j u, j < i → (T c)[j]? = some u → h u + 1 ≤ m) → (m = 0 ∨ ∃ u, u ∈ T c ∧ m = h u + 1) →
  ∃ D' H', lpInf (lpOf cfg a55 0 prot H0) ([.int .i64 c, .pointer (some ⟨p1, 0, some 1⟩), .pointer (some ⟨p3, 0, some 1⟩), .int .i64 m, x, .int .i64 (T c).length, .int .i64 i], H) = some (.exit 0, [.int .i64 c, .pointer (some ⟨p1, 0, some 1⟩), .int .i64 (h c)], H') ∧ WM (fLo p1 p2 p3) B H' n T (fun c => h c + 1) xd xg od p1 p2 p3 D' ∧ Stay (some od) H H'
 | 0, i, m, H, D, hi, hr, hw, hm1, hm2 => by
  have hmc : m = h c := by
   have le1 : m ≤ h c := by
    rcases hm2 with e | ⟨u, u1, e⟩
    ·omega
    ·have := hh.ge c u hc (hT c u u1).1 (hT c u u1).2 (decide_eq_true u1); omega
   rcases hh.ex c hc with e | ⟨u, u1, u2, u3, e⟩
   ·omega
   ·obtain ⟨j, hj⟩ := List.getElem?_of_mem (of_decide_eq_true u3)
    have := hm1 j u (by have := (List.getElem?_eq_some_iff.1 hj).1; omega) hj
    omega
  subst hmc
  obtain ⟨_, _, hre⟩ := hr.len
  refine ⟨D, H, ?_, hw, Stay.refl _ _⟩
  rw [hre]
  exact lp_last (f55_L0_1 (by omega))
 | d + 1, i, m, H, D, hi, hr, hw, hm1, hm2 => by
  have hil : i < (T c).length := by omega
  have hll := hTl c
  obtain ⟨u, hu⟩ : ∃ u, (T c)[i]? = some u := ⟨_, List.getElem?_eq_getElem hil⟩
  have hum : u ∈ T c := List.mem_of_getElem? hu
  obtain ⟨hun, huc⟩ := hT c u hum
  have hcs : (il (nl (T c)))[i]? = some (.int .i64 ((u : Nat) : Int)) := by
   unfold il nl; rw [List.getElem?_map, List.getElem?_map, hu]; rfl
  obtain ⟨id, L, a1, a2⟩ := rd_at T22 hr hcs
  have fi : Fit .i64 ((i : Int) + 1) := fit64 (by omega) (by omega)
  obtain ⟨ax, cx, hre⟩ := hr.len
  have hlt := hh.ge c u hc hun huc (decide_eq_true hum)
  obtain ⟨D1, H1, c1, c2, c3⟩ := ih u H D hun (by omega) hw
  have hif : ((if ((h u + 1 : Nat) : Int) > ((m : Nat) : Int) then ((h u + 1 : Nat) : Int) else ((m : Nat) : Int))) = ((max (h u + 1) m : Nat) : Int) := by split <;> omega
  obtain ⟨D', H', z1, z2, z3⟩ := loop55 hn hh hT hTl hp hc ih (H0 := H0) hne d (i + 1) (max (h u + 1) m) H1 D1 (by omega) (hr.stayNe c3 hne) c2 (fun j v hj hv => by
   by_cases ej : j = i
   ·subst ej; rw [hu] at hv; cases hv; omega
   ·have := hm1 j v (by omega) hv; omega) (by
   rcases Nat.le_total (h u + 1) m with g | g
   ·rw [Nat.max_eq_right g]; exact hm2
   ·rw [Nat.max_eq_left g]; exact .inr ⟨u, hum, rfl⟩)
  refine ⟨D', H', ?_, z2, c3.trans z3⟩
  rw [← hif] at z1
  have g3 := one_get hw.g3
  rw [hre] at a1 z1 ⊢
  exact lp_next (f55_L0_0 (by omega) a1 a2 g3 c1 fi) z1
theorem c55 {B n : Nat} {T : Nat → List Nat} {h : Nat → Nat} (hn : n ≤ 512) (hh : Ht (fun c d => decide (d ∈ T c)) n h) (hT : ∀ c d, d ∈ T c → d < n ∧ d ≠ c) (hTl : ∀ c, (T c).length ≤ 1000000) {xd xg : Value} {od p1 p2 p3 prot : Nat} (hp : prot ≤ od) : ∀ N c H D, c < n → h c < N → WM (fLo p1 p2 p3) B H n T (fun c => h c + 1) xd xg od p1 p2 p3 D →
  ∃ D' H', callInf cfg 55 [.int .i64 c, .pointer (some ⟨p1, 0, some 1⟩), .pointer (some ⟨p2, 0, some 1⟩), .pointer (some ⟨p3, 0, some 1⟩)] prot H = some (.int .i64 ((h c + 1 : Nat) : Int), H') ∧ WM (fLo p1 p2 p3) B H' n T (fun c => h c + 1) xd xg od p1 p2 p3 D' ∧ Stay (some od) H H'
 | 0, c, H, D, _, h0, _ => by omega
 | N + 1, c, H, D, hc, hN, hw => by
  have hlt := hh.lt c hc
  have g1 := one_get hw.g1
  obtain ⟨id, L, a1, a2⟩ := own_at T22 hw.dp (faL_get hc)
  obtain ⟨ad, cd, hd⟩ := hw.dp.len
  by_cases h0 : D c = 0
  ·have g2 := one_get hw.g2
   obtain ⟨cs, r1, r2⟩ := hw.rd
   obtain ⟨r, q1, q2, q3⟩ := r2 c hc
   obtain ⟨i2, L2, b1, b2⟩ := rd_at Am23g.T22 r1 q1
   obtain ⟨D1, H2, z1, z2, z3⟩ := loop55 hn hh hT hTl hp hc (fun d H D h1 h2 h3 => c55 hn hh hT hTl hp N d H D h1 (by omega) h3) (H0 := H) q3 (T c).length 0 0 H D (by omega) q2 hw (fun j u hj => by omega) (.inl rfl)
   obtain ⟨L3, H3, e1, e2, e3, e4⟩ := z2.put hc hp
   obtain ⟨i5, L5, q4, q5⟩ := own_at T22 e3.dp (faL_get hc)
   have hst : stF D1 c (h c + 1) c = h c + 1 := by unfold stF; rw [if_pos rfl]
   rw [hst] at q5
   refine ⟨_, H3, ?_, e3, z3.trans e4⟩
   obtain ⟨ax, cx, hx⟩ := q2.len
   obtain ⟨ay, cy, hs⟩ := r1.len
   rw [h0] at a2
   have gg1 := one_get z2.g1
   have gg3 := one_get e3.g1
   subst hx; subst hs; subst hd
   have e2' : setCells H2 prot od L3 c [.int .i64 ((h c : Int) + 1)] = some H3 := by
    rw [show ((h c : Int) + 1) = ((h c + 1 : Nat) : Int) by push_cast; rfl]; exact e2
   exact f55_F_0 g1 a1 a2 (by simp) g2 b1 b2 z1 gg1 (fit64 (by omega) (by omega)) e1 rfl e2' gg3 q4 q5
  ·have hok : D c = h c + 1 := by rcases hw.ok c hc with e | e; exact absurd e h0; exact e
   rw [hok] at a2
   refine ⟨D, H, ?_, hw, Stay.refl _ _⟩
   subst hd
   exact f55_F_1 g1 a1 a2 (by simp; omega) g1 a1 a2
end Go.Proofs.Ythjkodbinkiifaa.Am23
namespace Go.Proofs.Ythjkodbinkiifaa.Am
open Go
/-! Heights of which each element has a weight. -/
structure HtW (A : Nat → Nat → Bool) (n : Nat) (o h : Nat → Nat) : Prop where
 own : ∀ c, c < n → o c ≤ h c
 ge : ∀ c d, c < n → d < n → d ≠ c → A c d = true → h d + o c ≤ h c
 ex : ∀ c, c < n → h c = o c ∨ ∃ d, d < n ∧ d ≠ c ∧ A c d = true ∧ h c = h d + o c
def hgtW (A : Nat → Nat → Bool) (n : Nat) (o : Nat → Nat) : Nat → Nat → Nat
 | 0, c => o c
 | k + 1, c => o c + (mxl (hgtW A n o k) (upP A c) n - 1)
theorem hgtW_ok {A : Nat → Nat → Bool} {n : Nat} {r : Nat → Nat} (hr : Ht A n r) (o : Nat → Nat) : HtW A n o (hgtW A n o n) := by
 have up : ∀ c d, upP A c d = true → d ≠ c ∧ A c d = true := fun c d h => by
  simpa only [upP, Bool.and_eq_true, decide_eq_true_eq] using h
 have st : ∀ N c k, c < n → r c ≤ N → N ≤ k → hgtW A n o k c = hgtW A n o N c := by
  intro N
  induction N with
  | zero =>
   intro c k hc h1 h2
   cases k with
   | zero => rfl
   | succ k =>
    rw [hgtW, hgtW]
    rcases mxl_ex (f := hgtW A n o k) (p := upP A c) (n := n) with h | ⟨d, hd, hp, _⟩
    ·rw [h]; omega
    ·have := hr.ge c d hc hd (up c d hp).1 (up c d hp).2; omega
  | succ N ih =>
   intro c k hc h1 h2
   cases k with
   | zero => omega
   | succ k =>
    rw [hgtW, hgtW]
    rw [mxl_congr (g := hgtW A n o N) fun d hd hp => by
     have := hr.ge c d hc hd (up c d hp).1 (up c d hp).2
     exact ih d k hd (by omega) (by omega)]
 have fx : ∀ c, c < n → hgtW A n o n c = o c + (mxl (hgtW A n o n) (upP A c) n - 1) := fun c hc => by
  have := st n c (n + 1) hc (by have := hr.lt c hc; omega) (by omega)
  rw [← this, hgtW]
 refine ⟨fun c hc => ?_, fun c d hc hd hne ha => ?_, fun c hc => ?_⟩
 ·rw [fx c hc]; omega
 ·have := mxl_ge (f := hgtW A n o n) (p := upP A c) (d := d) (by simp [upP, hne, ha]) hd
  rw [fx c hc]; omega
 ·rcases mxl_ex (f := hgtW A n o n) (p := upP A c) (n := n) with h | ⟨d, hd, hp, h⟩
  ·exact .inl (by rw [fx c hc, h]; omega)
  ·exact .inr ⟨d, hd, (up c d hp).1, (up c d hp).2, by rw [fx c hc, h]; omega⟩
theorem HtW.le {A : Nat → Nat → Bool} {n : Nat} {o h r : Nat → Nat} (a : HtW A n o h) (hr : Ht A n r) (ho : ∀ c, c < n → o c ≤ 1) : ∀ N c, c < n → r c < N → h c ≤ r c + 1
 | 0, c, _, h0 => by omega
 | N + 1, c, hc, h0 => by
  have := ho c hc
  rcases a.ex c hc with e | ⟨d, hd, hne, ha, e⟩
  ·omega
  ·have h1 := hr.ge c d hc hd hne ha
   have := a.le hr ho N d hd (by omega)
   omega
/-- By the next ones alone. -/
theorem HtW.next {A E : Nat → Nat → Bool} {n : Nat} {o h : Nat → Nat} (a : HtW A n o h) (h1 : ∀ c d, E c d = true → A c d = true)
  (h2 : ∀ c d, c < n → d < n → d ≠ c → A c d = true → ∃ e, e < n ∧ e ≠ c ∧ E c e = true ∧ (e = d ∨ (d ≠ e ∧ A e d = true))) : HtW E n o h := by
 refine ⟨a.own, fun c d hc hd hne he => a.ge c d hc hd hne (h1 c d he), fun c hc => ?_⟩
 rcases a.ex c hc with e | ⟨d, hd, hne, ha, e⟩
 ·exact .inl e
 ·obtain ⟨x, x1, x2, x3, x4⟩ := h2 c d hc hd hne ha
  have g1 := a.ge c x hc x1 x2 (h1 _ _ x3)
  rcases x4 with rfl | ⟨x4, x5⟩
  ·exact .inr ⟨x, x1, x2, x3, e⟩
  ·have g2 := a.ge x d x1 hd x4 x5
   exact .inr ⟨x, x1, x2, x3, by omega⟩
end Go.Proofs.Ythjkodbinkiifaa.Am
set_option linter.unusedVariables false
open Go Go.Proofs.Ythjkodbinkiifaa.Am
namespace Go.Proofs.Ythjkodbinkiifaa.Am23
section
variable {x0 x13 z0 z7 x34 x46 x7 x19 x20 x23 x27 : Int}
variable {x1p x1o x1l x2p x2o x2l x3p x3o x3l x4p x4o x4l prot x10n x10c x12p x12o x12l x15n x15c x17p x17o x17l x18n x18c z1p z1o z1l z4p z4o z4l x31n x31c x33p x33o x33l x38n x38c x42p x42o x42l x43n x43c x45p x45o x45l x22p x22o x22l x25ap x25ao x25al x25bp x25bo x25bl x25cp x25co x25cl x25dp x25do x25dl : Nat}
variable {H H1 H2 H0 : AHeap}
variable {x10a x15a x18a x31a x38a x43a : Option Addr}
theorem f57_F_0 (h1 : getCells H x1p x1l x1o 1 = some [vS x10a x10n x10c]) (h2 : aX 22 (vS x10a x10n x10c) (vI x0) = some (vP x12p x12o x12l)) (h3 : getCells H x12p x12l x12o 1 = some [vI x13]) (h4 : (x13 == 0) = true) (h5 : getCells H x2p x2l x2o 1 = some [vS x15a x15n x15c]) (h6 : aX 86 (vS x15a x15n x15c) (vI x0) = some (vP x17p x17o x17l)) (h7 : getCells H x17p x17l x17o 1 = some [vS x18a x18n x18c]) (h8 : lI a57 0 prot H ([vI x0, vP x1p x1o x1l, vP x3p x3o x3l, vP x4p x4o x4l, vI 0, vS x18a x18n x18c, vI (↑x18n : Int), vI 0], H) = some (Ex.exit 0, [vI z0, vP z1p z1o z1l, vP z4p z4o z4l, vI z7], H1)) (h9 : getCells H1 z4p z4l z4o 1 = some [vS x31a x31n x31c]) (h10 : aX 22 (vS x31a x31n x31c) (vI z0) = some (vP x33p x33o x33l)) (h11 : getCells H1 x33p x33l x33o 1 = some [vI x34]) (h12 : x34 > 0) (h13 : Fit .i64 (z7 + 1)) (h14 : getCells H1 z1p z1l z1o 1 = some [vS x38a x38n x38c]) (h15 : Fit .i64 (z7 + 1 + 1)) (h16 : aX 22 (vS x38a x38n x38c) (vI z0) = some (vP x42p x42o x42l)) (h17 : 1 = 1) (h18 : setCells H1 prot x42p x42l x42o [vI (z7 + 1 + 1)] = some H2) (h19 : getCells H2 z1p z1l z1o 1 = some [vS x43a x43n x43c]) (h20 : aX 22 (vS x43a x43n x43c) (vI z0) = some (vP x45p x45o x45l)) (h21 : getCells H2 x45p x45l x45o 1 = some [vI x46]) : callInf cfg 57 [.int .i64 x0, .pointer (some ⟨x1p, x1o, some x1l⟩), .pointer (some ⟨x2p, x2o, some x2l⟩), .pointer (some ⟨x3p, x3o, some x3l⟩), .pointer (some ⟨x4p, x4o, some x4l⟩)] prot H = some (Value.int .i64 x46, H2) :=
 fn_of2 a57 [.v (vS x10a x10n x10c), .v (vP x12p x12o x12l), .v (vI x13), .e, .b true, .v (vS x15a x15n x15c), .v (vP x17p x17o x17l), .v (vS x18a x18n x18c), .e, .lo (.exit 0, [vI z0, vP z1p z1o z1l, vP z4p z4o z4l, vI z7], H1), .v (vS x31a x31n x31c), .v (vP x33p x33o x33l), .v (vI x34), .e, .b true, .e, .v (vS x38a x38n x38c), .e, .v (vP x42p x42o x42l), .h H2, .v (vS x43a x43n x43c), .v (vP x45p x45o x45l), .v (vI x46)] (ai h1 (ai h2 (ai h3 (ai h4 (ai h5 (ai h6 (ai h7 (ai h8 (ai h9 (ai h10 (ai h11 (ai (decide_eq_true h12) (ai h13 (ai h14 (ai h15 (ai h16 (ai h17 (ai h18 (ai h19 (ai h20 (ai h21 (Eq.refl ((vI x46, H2) : Value × AHeap))))))))))))))))))))))) (by kernel_rfl) rfl
theorem f57_F_1 (h1 : getCells H x1p x1l x1o 1 = some [vS x10a x10n x10c]) (h2 : aX 22 (vS x10a x10n x10c) (vI x0) = some (vP x12p x12o x12l)) (h3 : getCells H x12p x12l x12o 1 = some [vI x13]) (h4 : (x13 == 0) = true) (h5 : getCells H x2p x2l x2o 1 = some [vS x15a x15n x15c]) (h6 : aX 86 (vS x15a x15n x15c) (vI x0) = some (vP x17p x17o x17l)) (h7 : getCells H x17p x17l x17o 1 = some [vS x18a x18n x18c]) (h8 : lI a57 0 prot H ([vI x0, vP x1p x1o x1l, vP x3p x3o x3l, vP x4p x4o x4l, vI 0, vS x18a x18n x18c, vI (↑x18n : Int), vI 0], H) = some (Ex.exit 0, [vI z0, vP z1p z1o z1l, vP z4p z4o z4l, vI z7], H1)) (h9 : getCells H1 z4p z4l z4o 1 = some [vS x31a x31n x31c]) (h10 : aX 22 (vS x31a x31n x31c) (vI z0) = some (vP x33p x33o x33l)) (h11 : getCells H1 x33p x33l x33o 1 = some [vI x34]) (h12 : ¬(x34 > 0)) (h13 : getCells H1 z1p z1l z1o 1 = some [vS x38a x38n x38c]) (h14 : Fit .i64 (z7 + 1)) (h15 : aX 22 (vS x38a x38n x38c) (vI z0) = some (vP x42p x42o x42l)) (h16 : 1 = 1) (h17 : setCells H1 prot x42p x42l x42o [vI (z7 + 1)] = some H2) (h18 : getCells H2 z1p z1l z1o 1 = some [vS x43a x43n x43c]) (h19 : aX 22 (vS x43a x43n x43c) (vI z0) = some (vP x45p x45o x45l)) (h20 : getCells H2 x45p x45l x45o 1 = some [vI x46]) : callInf cfg 57 [.int .i64 x0, .pointer (some ⟨x1p, x1o, some x1l⟩), .pointer (some ⟨x2p, x2o, some x2l⟩), .pointer (some ⟨x3p, x3o, some x3l⟩), .pointer (some ⟨x4p, x4o, some x4l⟩)] prot H = some (Value.int .i64 x46, H2) :=
 fn_of2 a57 [.v (vS x10a x10n x10c), .v (vP x12p x12o x12l), .v (vI x13), .e, .b true, .v (vS x15a x15n x15c), .v (vP x17p x17o x17l), .v (vS x18a x18n x18c), .e, .lo (.exit 0, [vI z0, vP z1p z1o z1l, vP z4p z4o z4l, vI z7], H1), .v (vS x31a x31n x31c), .v (vP x33p x33o x33l), .v (vI x34), .e, .b false, .v (vS x38a x38n x38c), .e, .v (vP x42p x42o x42l), .h H2, .v (vS x43a x43n x43c), .v (vP x45p x45o x45l), .v (vI x46)] (ai h1 (ai h2 (ai h3 (ai h4 (ai h5 (ai h6 (ai h7 (ai h8 (ai h9 (ai h10 (ai h11 (ai (decide_eq_false h12) (ai h13 (ai h14 (ai h15 (ai h16 (ai h17 (ai h18 (ai h19 (ai h20 (Eq.refl ((vI x46, H2) : Value × AHeap)))))))))))))))))))))) (by kernel_rfl) rfl
theorem f57_F_2 (h1 : getCells H x1p x1l x1o 1 = some [vS x10a x10n x10c]) (h2 : aX 22 (vS x10a x10n x10c) (vI x0) = some (vP x12p x12o x12l)) (h3 : getCells H x12p x12l x12o 1 = some [vI x13]) (h4 : (x13 == 0) = false) (h5 : getCells H x1p x1l x1o 1 = some [vS x43a x43n x43c]) (h6 : aX 22 (vS x43a x43n x43c) (vI x0) = some (vP x45p x45o x45l)) (h7 : getCells H x45p x45l x45o 1 = some [vI x46]) : callInf cfg 57 [.int .i64 x0, .pointer (some ⟨x1p, x1o, some x1l⟩), .pointer (some ⟨x2p, x2o, some x2l⟩), .pointer (some ⟨x3p, x3o, some x3l⟩), .pointer (some ⟨x4p, x4o, some x4l⟩)] prot H = some (Value.int .i64 x46, H) :=
 fn_of2 a57 [.v (vS x10a x10n x10c), .v (vP x12p x12o x12l), .v (vI x13), .e, .b false, .v (vS x43a x43n x43c), .v (vP x45p x45o x45l), .v (vI x46)] (ai h1 (ai h2 (ai h3 (ai h4 (ai h5 (ai h6 (ai h7 (Eq.refl ((vI x46, H) : Value × AHeap))))))))) (by kernel_rfl) rfl
theorem f57_L0_0 (h1 : x20 < x19) (h2 : aX 22 (vS x18a x18n x18c) (vI x20) = some (vP x22p x22o x22l)) (h3 : getCells H x22p x22l x22o 1 = some [vI x23]) (h4 : getCells H x3p x3l x3o 1 = some [Value.func (Fn.func 57) #[] #[vP x25ap x25ao x25al, vP x25bp x25bo x25bl, vP x25cp x25co x25cl, vP x25dp x25do x25dl]]) (h5 : cI 57 [vI x23, vP x25ap x25ao x25al, vP x25bp x25bo x25bl, vP x25cp x25co x25cl, vP x25dp x25do x25dl] prot H = some (vI x27, H2)) (h6 : Fit .i64 (x27 - 1)) (h7 : Fit .i64 (x20 + 1)) : lpOf cfg a57 0 prot H0 ([.int .i64 x0, .pointer (some ⟨x1p, x1o, some x1l⟩), .pointer (some ⟨x3p, x3o, some x3l⟩), .pointer (some ⟨x4p, x4o, some x4l⟩), .int .i64 x7, .slice x18a x18n x18c, .int .i64 x19, .int .i64 x20], H) = some (Sum.inl ([Value.int .i64 x0, Value.pointer (some ⟨x1p, x1o, some x1l⟩), Value.pointer (some ⟨x3p, x3o, some x3l⟩), Value.pointer (some ⟨x4p, x4o, some x4l⟩), Value.int .i64 (if x27 - 1 > x7 then x27 - 1 else x7), Value.slice x18a x18n x18c, Value.int .i64 x19, Value.int .i64 (x20 + 1)], H2)) :=
 lp_of2 [.e, .b true, .v (vP x22p x22o x22l), .v (vI x23), .v (.func (.func 57) #[] #[vP x25ap x25ao x25al, vP x25bp x25bo x25bl, vP x25cp x25co x25cl, vP x25dp x25do x25dl]), .r (vI x27) H2, .e, .e, .e] (ai (decide_eq_true h1) (ai h2 (ai h3 (ai h4 (ai h5 (ai h6 (ai h7 (Eq.refl (Sum.inl ([vI x0, vP x1p x1o x1l, vP x3p x3o x3l, vP x4p x4o x4l, vI (if x27 - 1 > x7 then x27 - 1 else x7), vS x18a x18n x18c, vI x19, vI (x20 + 1)], H2) : LS ⊕ LO))))))))) (by kernel_rfl)
theorem f57_L0_1 (h1 : ¬(x20 < x19)) : lpOf cfg a57 0 prot H0 ([.int .i64 x0, .pointer (some ⟨x1p, x1o, some x1l⟩), .pointer (some ⟨x3p, x3o, some x3l⟩), .pointer (some ⟨x4p, x4o, some x4l⟩), .int .i64 x7, .slice x18a x18n x18c, .int .i64 x19, .int .i64 x20], H) = some (Sum.inr (Ex.exit 0, [Value.int .i64 x0, Value.pointer (some ⟨x1p, x1o, some x1l⟩), Value.pointer (some ⟨x4p, x4o, some x4l⟩), Value.int .i64 x7], H)) :=
 lp_of2 [.e, .b false] (ai (decide_eq_false h1) (Eq.refl (Sum.inr (Ex.exit 0, [vI x0, vP x1p x1o x1l, vP x4p x4o x4l, vI x7], H) : LS ⊕ LO))) (by kernel_rfl)
end
end Go.Proofs.Ythjkodbinkiifaa.Am23
namespace Go.Proofs.Ythjkodbinkiifaa.Am23
open Go Go.Proofs.Ythjkodbinkiifaa.Am
open Am23g (addE Out Mine out_start gc_mine Gr nl)
/-! Growth: the memo and the walk. -/
abbrev fGr (p1 p2 p3 p4 : Nat) : Value := .func (.func 57) #[] #[.pointer (some ⟨p1, 0, some 1⟩), .pointer (some ⟨p2, 0, some 1⟩), .pointer (some ⟨p3, 0, some 1⟩), .pointer (some ⟨p4, 0, some 1⟩)]
structure WG (fc : Value) (B : Nat) (H : AHeap) (n : Nat) (T : Nat → List Nat) (g E : Nat → Nat) (xd xg xe : Value) (od oe p1 p2 p3 p4 : Nat) (D : Nat → Nat) : Prop where
 w : WM fc B H n T g xd xg od p1 p2 p3 D
 g4 : H[p4]? = some (.cells [xe] 22 1 .var)
 ow : Own H 3 1 xe (some oe) n (il (faL E n))
 ne : oe ≠ od
 n4 : od ≠ p4
theorem WG.keep {fc : Value} {B : Nat} {H H' : AHeap} {n : Nat} {T : Nat → List Nat} {g E : Nat → Nat} {xd xg xe : Value} {od oe p1 p2 p3 p4 : Nat} {D D' : Nat → Nat} (h : WG fc B H n T g E xd xg xe od oe p1 p2 p3 p4 D) (w : WM fc B H' n T g xd xg od p1 p2 p3 D') (s : Stay (some od) H H') : WG fc B H' n T g E xd xg xe od oe p1 p2 p3 p4 D' :=
 ⟨w, by rw [s.2 _ (List.getElem?_eq_some_iff.1 h.g4).1 (fun e => h.n4 (Option.some.inj e))]; exact h.g4, h.ow.stay s (fun id e1 e2 => by cases e1; exact h.ne (Option.some.inj e2).symm), h.ne, h.n4⟩
theorem loop57 {B n : Nat} {T : Nat → List Nat} {h o E r : Nat → Nat} (hn : n ≤ 512) (hh : HtW (fun c d => decide (d ∈ T c)) n o h) (hT : ∀ c d, d ∈ T c → d < n ∧ d ≠ c ∧ r d < r c) (hT2 : ∀ c, (T c).length ≤ 1000000) (hb : ∀ c, c < n → h c ≤ 1000) {xd xg xe : Value} {od oe p1 p2 p3 p4 prot c : Nat} (hp : prot ≤ od) (hc : c < n)
  (ih : ∀ d H D, d < n → r d < r c → WG (fGr p1 p2 p3 p4) B H n T (fun c => h c + 1) E xd xg xe od oe p1 p2 p3 p4 D → ∃ D' H', callInf cfg 57 [.int .i64 d, .pointer (some ⟨p1, 0, some 1⟩), .pointer (some ⟨p2, 0, some 1⟩), .pointer (some ⟨p3, 0, some 1⟩), .pointer (some ⟨p4, 0, some 1⟩)] prot H = some (.int .i64 ((h d + 1 : Nat) : Int), H') ∧ WG (fGr p1 p2 p3 p4) B H' n T (fun c => h c + 1) E xd xg xe od oe p1 p2 p3 p4 D' ∧ Stay (some od) H H')
  {H0 : AHeap} {x : Value} (hne : ∀ id off L n' c, x = .slice (some ⟨id, off, some L⟩) n' c → some od ≠ some id) : ∀ (d i m : Nat) (H : AHeap) (D : Nat → Nat), i + d = (T c).length → Rd H 3 1 x (T c).length (il (nl (T c))) → WG (fGr p1 p2 p3 p4) B H n T (fun c => h c + 1) E xd xg xe od oe p1 p2 p3 p4 D →
   (∀ j u, j < i → (T c)[j]? = some u → h u ≤ m) → (m = 0 ∨ ∃ u, u ∈ T c ∧ m = h u) →
  ∃ D' H' m', lpInf (lpOf cfg a57 0 prot H0) ([.int .i64 c, .pointer (some ⟨p1, 0, some 1⟩), .pointer (some ⟨p3, 0, some 1⟩), .pointer (some ⟨p4, 0, some 1⟩), .int .i64 m, x, .int .i64 (T c).length, .int .i64 i], H) = some (.exit 0, [.int .i64 c, .pointer (some ⟨p1, 0, some 1⟩), .pointer (some ⟨p4, 0, some 1⟩), .int .i64 (m' : Nat)], H') ∧ WG (fGr p1 p2 p3 p4) B H' n T (fun c => h c + 1) E xd xg xe od oe p1 p2 p3 p4 D' ∧ Stay (some od) H H' ∧ m' + o c = h c
 | 0, i, m, H, D, hi, hr, hw, hm1, hm2 => by
  have hmc : m + o c = h c := by
   have le1 : m + o c ≤ h c := by
    rcases hm2 with e | ⟨u, u1, e⟩
    ·have := hh.own c hc; omega
    ·have := hh.ge c u hc (hT c u u1).1 (hT c u u1).2.1 (decide_eq_true u1); omega
   rcases hh.ex c hc with e | ⟨u, u1, u2, u3, e⟩
   ·omega
   ·obtain ⟨j, hj⟩ := List.getElem?_of_mem (of_decide_eq_true u3)
    have := hm1 j u (by have := (List.getElem?_eq_some_iff.1 hj).1; omega) hj
    omega
  obtain ⟨_, _, hre⟩ := hr.len
  refine ⟨D, H, m, ?_, hw, Stay.refl _ _, hmc⟩
  rw [hre]
  exact lp_last (f57_L0_1 (by omega))
 | d + 1, i, m, H, D, hi, hr, hw, hm1, hm2 => by
  have hil : i < (T c).length := by omega
  have hll := hT2 c
  obtain ⟨u, hu⟩ : ∃ u, (T c)[i]? = some u := ⟨_, List.getElem?_eq_getElem hil⟩
  have hum : u ∈ T c := List.mem_of_getElem? hu
  obtain ⟨hun, huc, hur⟩ := hT c u hum
  have hub := hb u hun
  have hcs : (il (nl (T c)))[i]? = some (.int .i64 ((u : Nat) : Int)) := by
   unfold il nl; rw [List.getElem?_map, List.getElem?_map, hu]; rfl
  obtain ⟨id, L, a1, a2⟩ := rd_at T22 hr hcs
  have fi : Fit .i64 ((i : Int) + 1) := fit64 (by omega) (by omega)
  obtain ⟨ax, cx, hre⟩ := hr.len
  obtain ⟨D1, H1, c1, c2, c3⟩ := ih u H D hun hur hw
  have hif : ((if ((h u + 1 : Nat) : Int) - 1 > ((m : Nat) : Int) then ((h u + 1 : Nat) : Int) - 1 else ((m : Nat) : Int))) = ((max (h u) m : Nat) : Int) := by split <;> omega
  obtain ⟨D', H', m', z1, z2, z3, z4⟩ := loop57 hn hh hT hT2 hb hp hc ih (H0 := H0) hne d (i + 1) (max (h u) m) H1 D1 (by omega) (hr.stayNe c3 hne) c2 (fun j v hj hv => by
   by_cases ej : j = i
   ·subst ej; rw [hu] at hv; cases hv; omega
   ·have := hm1 j v (by omega) hv; omega) (by
   rcases Nat.le_total (h u) m with g | g
   ·rw [Nat.max_eq_right g]; exact hm2
   ·rw [Nat.max_eq_left g]; exact .inr ⟨u, hum, rfl⟩)
  refine ⟨D', H', m', ?_, z2, c3.trans z3, z4⟩
  rw [← hif] at z1
  have g3 := one_get hw.w.g3
  rw [hre] at a1 z1 ⊢
  exact lp_next (f57_L0_0 (by omega) a1 a2 g3 c1 (fit64 (by omega) (by omega)) fi) z1
theorem c57 {B n : Nat} {T : Nat → List Nat} {h o E r : Nat → Nat} (hn : n ≤ 512) (hh : HtW (fun c d => decide (d ∈ T c)) n o h) (hT : ∀ c d, d ∈ T c → d < n ∧ d ≠ c ∧ r d < r c) (hT2 : ∀ c, (T c).length ≤ 1000000) (hb : ∀ c, c < n → h c ≤ 1000) (ho : ∀ c, c < n → o c = min 1 (E c)) {xd xg xe : Value} {od oe p1 p2 p3 p4 prot : Nat} (hp : prot ≤ od) : ∀ N c H D, c < n → r c < N → WG (fGr p1 p2 p3 p4) B H n T (fun c => h c + 1) E xd xg xe od oe p1 p2 p3 p4 D →
  ∃ D' H', callInf cfg 57 [.int .i64 c, .pointer (some ⟨p1, 0, some 1⟩), .pointer (some ⟨p2, 0, some 1⟩), .pointer (some ⟨p3, 0, some 1⟩), .pointer (some ⟨p4, 0, some 1⟩)] prot H = some (.int .i64 ((h c + 1 : Nat) : Int), H') ∧ WG (fGr p1 p2 p3 p4) B H' n T (fun c => h c + 1) E xd xg xe od oe p1 p2 p3 p4 D' ∧ Stay (some od) H H'
 | 0, c, H, D, _, h0, _ => by omega
 | N + 1, c, H, D, hc, hN, hw => by
  have hbc := hb c hc
  have g1 := one_get hw.w.g1
  obtain ⟨id, L, a1, a2⟩ := own_at T22 hw.w.dp (faL_get hc)
  obtain ⟨ad, cd, hd⟩ := hw.w.dp.len
  by_cases h0 : D c = 0
  ·have g2 := one_get hw.w.g2
   obtain ⟨cs, r1, r2⟩ := hw.w.rd
   obtain ⟨r, q1, q2, q3⟩ := r2 c hc
   obtain ⟨i2, L2, b1, b2⟩ := rd_at Am23g.T22 r1 q1
   obtain ⟨D1, H2, m', z1, z2, z3, z4⟩ := loop57 hn hh hT hT2 hb hp hc (fun d H D h1 h2 h3 => c57 hn hh hT hT2 hb ho hp N d H D h1 (by omega) h3) (H0 := H) q3 (T c).length 0 0 H D (by omega) q2 hw (fun j u hj => by omega) (.inl rfl)
   obtain ⟨L3, H3, e1, e2, e3, e4⟩ := z2.w.put hc hp
   obtain ⟨i5, L5, q4, q5⟩ := own_at T22 e3.dp (faL_get hc)
   have hst : stF D1 c (h c + 1) c = h c + 1 := by unfold stF; rw [if_pos rfl]
   rw [hst] at q5
   refine ⟨_, H3, ?_, z2.keep e3 e4, z3.trans e4⟩
   obtain ⟨ax, cx, hx⟩ := q2.len
   obtain ⟨ay, cy, hs⟩ := r1.len
   rw [h0] at a2
   have gg1 := one_get z2.w.g1
   have gg3 := one_get e3.g1
   have gg4 := one_get z2.g4
   obtain ⟨i6, L6, k1, k2⟩ := own_at T22 z2.ow (faL_get hc)
   obtain ⟨ae, ce, he⟩ := z2.ow.len
   have hoc := ho c hc
   subst hx; subst hs; subst hd; subst he
   by_cases hE : 0 < E c
   ·have e2' : setCells H2 prot od L3 c [.int .i64 ((m' : Int) + 1 + 1)] = some H3 := by
     rw [show ((m' : Int) + 1 + 1) = ((h c + 1 : Nat) : Int) by omega]; exact e2
    exact f57_F_0 g1 a1 a2 (by simp) g2 b1 b2 z1 gg4 k1 k2 (by omega) (fit64 (by omega) (by omega)) gg1 (fit64 (by omega) (by omega)) e1 rfl e2' gg3 q4 q5
   ·have e2' : setCells H2 prot od L3 c [.int .i64 ((m' : Int) + 1)] = some H3 := by
     rw [show ((m' : Int) + 1) = ((h c + 1 : Nat) : Int) by omega]; exact e2
    exact f57_F_1 g1 a1 a2 (by simp) g2 b1 b2 z1 gg4 k1 k2 (by omega) gg1 (fit64 (by omega) (by omega)) e1 rfl e2' gg3 q4 q5
  ·have hok : D c = h c + 1 := by rcases hw.w.ok c hc with e | e; exact absurd e h0; exact e
   rw [hok] at a2
   refine ⟨D, H, ?_, hw, Stay.refl _ _⟩
   subst hd
   exact f57_F_2 g1 a1 a2 (by simp; omega) g1 a1 a2
end Go.Proofs.Ythjkodbinkiifaa.Am23
namespace Go.Proofs.Ythjkodbinkiifaa.Am23g
open Go Go.Proofs.Ythjkodbinkiifaa.Am Am23
/-! A row grows; what else there is stays. -/
theorem Out.appQ {B p : Nat} (hp : p ≤ B) {H : AHeap} {x3 : Value} {N : Nat} {r : Nat → Value} {o : Nat → Option Nat} {o3 : Nat} {T : Nat → List Nat} (h : Out B H x3 N r o o3 T) {u : Nat} (hu : u < N) (v : Nat) {room : Bool} (hn : (T u).length ≤ 10000000) (hB : B ≤ H.length) :
  ∃ a' c' H2 H3 id3 L3, aindexAddr cfg.P 86 x3 (.int .i64 (u : Nat)) = some (.pointer (some ⟨id3, u, some L3⟩)) ∧ getCells H id3 L3 u 1 = some [r u] ∧
   aappend cfg.P p room 22 22 (r u) (.slice (some ⟨H.length, 0, some (1 * 1)⟩) 1 1) (H ++ [wo [.int .i64 (v : Int)] 3]) = some (.slice a' ((T u).length + 1) c', H2) ∧
   setCells H2 p id3 L3 u [.slice a' ((T u).length + 1) c'] = some H3 ∧ (∃ r' o', Out B H3 x3 N r' o' o3 (addE T u v) ∧ ∀ j a, j < N → o' j = some a → o j = some a ∨ H.length ≤ a) ∧ (∀ q, q < H.length → q ≠ o3 → (∀ j, j < N → o j ≠ some q) → H3[q]? = H[q]?) ∧ H.length ≤ H3.length := by
 have hru := h.rx u hu
 obtain ⟨a', c', ou, H2, q1, q2, q3, q4, q5, q6⟩ := own_app T34 hru (ecs := [.int .i64 (v : Int)]) rfl rfl (prot := p) (room := room) (fun id e => Nat.le_trans hp (h.bo u hu id e)) (Nat.le_trans hp hB) (by omega) (L := 1 * 1) rfl (el := [Value.int .i64 (v : Int)].length) rfl
 obtain ⟨id, e3, p1, p2⟩ := own_at T22 h.x3 (range_at r hu)
 cases e3
 have hx2 : Own H2 22 1 x3 (some o3) N ((List.range N).map r) := by
  cases ho : o u with
  | none => rw [ho] at q3; exact h.x3.stay q3 (fun _ _ e => by cases e)
  | some a =>
   rw [ho] at q3 hru
   obtain ⟨_, _, _, wr, _, hH⟩ := hru
   exact h.x3.stayE hH (by decide) q3
 obtain ⟨id, H3, e3, s1, s2, s3, s4, s5⟩ := own_setS T22 hx2 (i := u) (j := 0) hu (vs := [.slice a' ((T u).length + 1) c']) (by simp) rfl (prot := p) (fun id e => by cases e; exact Nat.le_trans hp h.b3)
 cases e3
 obtain ⟨_, _, _, wr3, _, hH3⟩ := hx2
 have hput : putList ((List.range N).map r) (u * 1 + 0) [.slice a' ((T u).length + 1) c'] = (List.range N).map (fun j => if j = u then .slice a' ((T u).length + 1) c' else r j) := by
  rw [Nat.mul_one, Nat.add_zero, put_one _ (by simp; exact hu)]
  apply List.ext_getElem?
  intro j
  by_cases e : j = u
  ·subst e
   rw [List.getElem?_set_self (by simp; exact hu), range_at _ hu, if_pos rfl]
  ·rw [List.getElem?_set_ne (fun h => e h.symm), List.getElem?_map, List.getElem?_map]
   by_cases hj : j < N
   ·rw [List.getElem?_range hj]; simp [e]
   ·rw [List.getElem?_eq_none (by simp; omega)]; rfl
 rw [hput] at s3
 have hil : il (nl (T u)) ++ [Value.int .i64 (v : Int)] = il (nl (T u ++ [v])) := by simp [il, nl]
 rw [hil] at q2
 rw [Nat.mul_one, Nat.add_zero] at s2
 refine ⟨a', c', H2, H3, o3, _, p1, p2, q1, s2, ⟨_, fun j => if j = u then some ou else o j, ⟨s3, fun j hj => ?_, h.b3, fun j hj a ha => ?_, ?_⟩, fun j a hj ha => ?_⟩, fun q hq hq3 hqo => ?_, ?_⟩
 ·by_cases e : j = u
  ·subst e
   rw [if_pos rfl, if_pos rfl]
   unfold addE
   rw [if_pos rfl, List.length_append]
   exact q2.stayE hH3 (by decide) s4
  ·rw [if_neg e, if_neg e]
   unfold addE
   rw [if_neg e]
   exact ((h.rx j hj).stay q3 (fun id e1 e2 => h.dis j u hj hu e id e1 e2)).stayE hH3 (by decide) s4
 ·by_cases e : j = u
  ·subst e
   rw [if_pos rfl] at ha
   cases ha
   cases hou : o j with
   | none => exact Nat.le_trans hB (q5 hou)
   | some a0 => rw [q6 a0 hou]; exact h.bo j hj a0 hou
  ·rw [if_neg e] at ha
   exact h.bo j hj a ha
 ·have hnew : ∀ j, j < N → j ≠ u → o j ≠ some ou := fun j hj hne e => by
   cases ho : o u with
   | none =>
    have h1 := q5 ho
    have h2 := h.rx j hj
    rw [e] at h2
    have := own_lt h2
    omega
   | some a =>
    have h1 := q6 a ho
    exact h.dis j u hj hu hne ou e (by rw [ho, h1])
  intro i j hi hj hne a ha hb
  simp only at ha hb
  by_cases e1 : i = u
  ·have e2 : j ≠ u := fun e2 => hne (by rw [e1, e2])
   rw [if_pos e1] at ha
   rw [if_neg e2] at hb
   cases ha
   exact hnew j hj e2 hb
  ·rw [if_neg e1] at ha
   by_cases e2 : j = u
   ·rw [if_pos e2] at hb
    cases hb
    exact hnew i hi e1 ha
   ·rw [if_neg e2] at hb
    exact h.dis i j hi hj hne a ha hb
 ·simp only at ha
  by_cases e : j = u
  ·subst e
   rw [if_pos rfl] at ha
   cases ha
   cases hou : o j with
   | none => exact .inr (q5 hou)
   | some a0 => rw [q6 a0 hou]; exact .inl rfl
  ·rw [if_neg e] at ha
   exact .inl ha
 ·rw [s4.2 q (by have := q3.1; omega) (fun e => hq3 (Option.some.inj e).symm)]
  exact q3.2 q hq (hqo u hu)
 ·have := q3.1; have := s4.1; omega
end Go.Proofs.Ythjkodbinkiifaa.Am23g
namespace Go.Proofs.Ythjkodbinkiifaa.Am23g
open Go Go.Proofs.Ythjkodbinkiifaa.Am Am23
theorem c36 {G : List (List Int)} (hG : Good G) {vG x1 : Value} (prot : Nat) {H : AHeap} (hg : Gr H vG G) (hw : WL G H x1) (hx1 : ∃ a c, x1 = .slice a G.length c) :
  ∃ x' H', callInf cfg 73 [vG, x1] prot H = some (.tuple #[x', .int .i64 (comp G).2], H') ∧ OwnE H' 3 x' G.length (il (nl (comp G).1)) H.length ∧ (comp G).1.length = G.length ∧ Stay none H H' := by
 have h5 := hG.1
 obtain ⟨aG, cG, rfl⟩ := hg.len
 by_cases h0 : 0 < G.length
 ·obtain ⟨HA, hHA⟩ : ∃ HA, HA = H ++ [AObj.cells (repCells [.int .i64 0] G.length) 3 (repCells [.int .i64 0] G.length).length .row] := ⟨_, rfl⟩
  have sA : Stay none H HA := by rw [hHA]; exact Stay.app none H _
  have m : Own HA 3 1 (.slice (some ⟨H.length, 0, some (G.length * 1)⟩) G.length G.length) (some H.length) G.length (il (pad G.length (nl []))) := by
   rw [hHA]
   have := own_mk (e := 3) h0 H (.int .i64 0)
   have e1 : il (pad G.length (nl [])) = List.replicate G.length (.int .i64 0) := by simp [il, pad, nl]
   rw [e1]
   exact this
  obtain ⟨H1, z1, z2, z3, z4⟩ := loop36o hG hw (Nat.le_refl _) (H0 := H) (Nat.le_refl _) (prot := prot) hx1 G.length 0 [] 0 HA (by omega) rfl (Nat.le_refl _) (fun x h => by cases h) sA m
  obtain ⟨x', o', H', g1, g2, g3, g4, _⟩ := gc_row (H := H) (ps := [.int .i64 ((comp G).2 : Nat)]) z2 (fun id h => by cases h; exact Nat.le_refl _) (il_plain _) rfl
  refine ⟨x', H', ?_, .inl ⟨o', g2, g4⟩, z3, g3⟩
  obtain ⟨ax, cx, rfl⟩ := hx1
  subst hHA
  exact f73_F_0 _ _ (by omega) rfl (by omega) (by omega) z1 (by rw [pfin_eq, if_neg (by simp [a73])]; exact g1)
 ·have hn : G = [] := List.eq_nil_of_length_eq_zero (by omega)
  subst hn
  obtain ⟨ax, cx, rfl⟩ := hx1
  have hl : lpInf (lpOf cfg a73 0 prot H) ([.slice ax 0 cx, .slice (some ⟨H.length, 0, some (0 * 1)⟩) 0 0, .int .i64 0, .int .i64 ((0 : Nat) : Int), .int .i64 0], H ++ [AObj.cells (repCells [.int .i64 0] 0) 3 (repCells [.int .i64 0] 0).length .row]) = some (.exit 0, [.slice (some ⟨H.length, 0, some (0 * 1)⟩) 0 0, .int .i64 0], H ++ [AObj.cells (repCells [.int .i64 0] 0) 3 (repCells [.int .i64 0] 0).length .row]) :=
   lp_last (f73_L0_2 (by decide))
  have hE : OwnE (H ++ [AObj.cells (repCells [.int .i64 0] 0) 3 (repCells [.int .i64 0] 0).length .row]) 3 (.slice (some ⟨H.length, 0, some (0 * 1)⟩) 0 0) 0 [] H.length := .inr ⟨rfl, rfl, H.length, rfl, Nat.le_refl _, append_get.1⟩
  obtain ⟨x', H', g1, g2, g3⟩ := gcE (H := H) hE rfl (ps := [.int .i64 0]) rfl
  exact ⟨x', H', f73_F_0 _ _ (by omega) rfl (by omega) (by decide) hl (by rw [pfin_eq, if_neg (by simp [a73])]; exact g1), g2, rfl, g3⟩

theorem c18 {G : List (List Int)} (hs : Short G) {vG : Value} (prot : Nat) {H : AHeap} (hg : Gr H vG G) :
  (chk G ≠ 0 ∧ callInf cfg 56 [vG] prot H = some (.tuple #[.slice none 0 0, .int .i64 0, .int .i64 (chk G)], H)) ∨
  (chk G = 0 ∧ ∃ x' H', callInf cfg 56 [vG] prot H = some (.tuple #[x', .int .i64 (comp G).2, .int .i64 0], H') ∧ OwnE H' 3 x' G.length (il (nl (comp G).1)) H.length ∧ (comp G).1.length = G.length ∧ Stay none H H') := by
 have h25 := c25 hs H.length hg
 have hgl := hg.len
 by_cases h : chk G = 0
 ·refine .inr ⟨h, ?_⟩
  have hG := good_of hs h
  obtain ⟨a, c, H1, w1, w2, w3⟩ := c37 hG H.length hg
  obtain ⟨y, H2, n1, n2, n3, n4⟩ := c36 hG H.length (hg.stay w3) w2 ⟨a, c, rfl⟩
  obtain ⟨x', H', g1, g2, g3⟩ := gcE (H := H) (n2.weak w3.1) (il_plain _) (ps := [.int .i64 ((comp G).2 : Nat), .int .i64 0]) rfl
  refine ⟨x', H', ?_, g2, n3, g3⟩
  obtain ⟨aG, cG, rfl⟩ := hgl
  obtain ⟨ay, cy, rfl⟩ := n2.rd.len
  exact f56_F_1 _ _ h25 (by simp [h]) w1 n1 (by rw [pfin_eq, if_neg (by simp [a56])]; exact g1)
 ·refine .inl ⟨h, ?_⟩
  obtain ⟨aG, cG, rfl⟩ := hgl
  exact f56_F_0 h25 (by simpa using h)
end Go.Proofs.Ythjkodbinkiifaa.Am23g
set_option linter.unusedVariables false
namespace Go.Proofs.Ythjkodbinkiifaa.Am23g
open Go Go.Proofs.Ythjkodbinkiifaa.Am Am23
end Go.Proofs.Ythjkodbinkiifaa.Am23g
namespace Go.Proofs.Ythjkodbinkiifaa.Am23g
open Go Go.Proofs.Ythjkodbinkiifaa.Am Am23
end Go.Proofs.Ythjkodbinkiifaa.Am23g
namespace Go.Proofs.Ythjkodbinkiifaa.Am23g
open Go Go.Proofs.Ythjkodbinkiifaa.Am Am23
end Go.Proofs.Ythjkodbinkiifaa.Am23g
namespace Go.Proofs.Ythjkodbinkiifaa.Am23g
open Go Go.Proofs.Ythjkodbinkiifaa.Am Am23
end Go.Proofs.Ythjkodbinkiifaa.Am23g
namespace Go.Proofs.Ythjkodbinkiifaa.Am23g
open Go Go.Proofs.Ythjkodbinkiifaa.Am Am23
def Mu (G : List (List Int)) (u v : Nat) : Prop := Rch G u v ∧ Rch G v u
theorem Mu.symm {G : List (List Int)} {u v : Nat} (h : Mu G u v) : Mu G v u := ⟨h.2, h.1⟩
theorem Mu.trans {G : List (List Int)} {u v w : Nat} (h : Mu G u v) (k : Mu G v w) : Mu G u w := ⟨h.1.trans k.1, k.2.trans h.2⟩
theorem mu_Mu {G : List (List Int)} {u v : Nat} : mu G u v = true ↔ Mu G u v := mu_iff
/-- Numbers rise by one at most. -/
def pr : List Nat → Nat → Option Nat
 | [], m => some m
 | x :: l, m => if x ≤ m then pr l (max m (x + 1)) else none
theorem pr_snoc {x n : Nat} (hx : x ≤ n) : ∀ (l : List Nat) (m : Nat), pr l m = some n → pr (l ++ [x]) m = some (max n (x + 1))
 | [], m, h => by
  simp only [pr, Option.some.injEq] at h
  subst h
  simp [pr, hx]
 | y :: l, m, h => by
  rw [List.cons_append, pr]
  rw [pr] at h
  split at h
  ·rename_i hy
   rw [if_pos hy]
   exact pr_snoc hx l _ h
  ·cases h
structure NI (G : List (List Int)) (v : Nat) (out : List Nat) (n : Nat) : Prop where
 l : out.length = v
 b : ∀ i, i < v → out.getD i 0 < n
 e : ∀ u w, u < v → w < v → (out.getD u 0 = out.getD w 0 ↔ u = w ∨ Mu G u w)
 p : pr out 0 = some n
theorem getD_snoc {out : List Nat} {x i : Nat} : (out ++ [x]).getD i 0 = if i = out.length then x else out.getD i 0 := by
 by_cases h : i < out.length
 ·rw [if_neg (by omega), List.getD_eq_getElem?_getD, List.getElem?_append_left h, ← List.getD_eq_getElem?_getD]
 ·by_cases h2 : i = out.length
  ·subst h2; simp [List.getD_eq_getElem?_getD]
  ·rw [if_neg h2, List.getD_eq_getElem?_getD, List.getD_eq_getElem?_getD, List.getElem?_eq_none (by simp; omega), List.getElem?_eq_none (by omega)]
theorem numR_ok {G : List (List Int)} : ∀ (d v : Nat) (out : List Nat) (n : Nat), NI G v out n → NI G (v + d) (numR G d v out n).1 (numR G d v out n).2
 | 0, v, out, n, h => h
 | d + 1, v, out, n, h => by
  rw [numR, show v + (d + 1) = v + 1 + d by omega]
  cases hf : findM (mu G v) v 0 with
  | some u =>
   obtain ⟨_, hu, hm⟩ := findM_some hf
   have hmu := mu_Mu.1 hm
   have hul : u < v := by omega
   refine numR_ok d (v + 1) _ n ⟨by simp [h.l], fun i hi => ?_, fun a c ha hc => ?_, ?_⟩
   ·rw [getD_snoc, h.l]
    split
    ·exact h.b u hul
    ·exact h.b i (by omega)
   ·have new : ∀ w, w < v → (out.getD w 0 = out.getD u 0 ↔ Mu G w v) := fun w hw => by
     rw [h.e w u hw hul]
     constructor
     ·rintro (rfl | h1)
      ·exact hmu.symm
      ·exact h1.trans hmu.symm
     ·intro h1
      by_cases e : w = u
      ·exact .inl e
      ·exact .inr (h1.trans hmu)
    rw [getD_snoc, getD_snoc, h.l]
    by_cases e1 : a = v
    ·by_cases e2 : c = v
     ·rw [if_pos e1, if_pos e2]; simp [e1, e2]
     ·rw [if_pos e1, if_neg e2]
      have := new c (by omega)
      subst e1
      constructor
      ·intro h1; exact .inr (this.1 h1.symm).symm
      ·rintro (h1 | h1)
       ·exact absurd h1.symm e2
       ·exact (this.2 h1.symm).symm
    ·by_cases e2 : c = v
     ·rw [if_neg e1, if_pos e2]
      have := new a (by omega)
      subst e2
      constructor
      ·intro h1; exact .inr (this.1 h1)
      ·rintro (h1 | h1)
       ·exact absurd h1 e1
       ·exact this.2 h1
     ·rw [if_neg e1, if_neg e2]
      exact h.e a c (by omega) (by omega)
   ·have hb := h.b u hul
    have := pr_snoc (Nat.le_of_lt hb) out 0 h.p
    rw [Nat.max_eq_left (by omega)] at this
    exact this
  | none =>
   have hno : ∀ w, w < v → ¬ Mu G v w := fun w hw hm => by
    have := findM_none hf w (Nat.zero_le _) (by omega)
    rw [mu_Mu.2 hm] at this
    cases this
   refine numR_ok d (v + 1) _ (n + 1) ⟨by simp [h.l], fun i hi => ?_, fun a c ha hc => ?_, ?_⟩
   ·rw [getD_snoc, h.l]
    split
    ·omega
    ·have := h.b i (by omega); omega
   ·rw [getD_snoc, getD_snoc, h.l]
    by_cases e1 : a = v
    ·by_cases e2 : c = v
     ·rw [if_pos e1, if_pos e2]; simp [e1, e2]
     ·rw [if_pos e1, if_neg e2]
      have := h.b c (by omega)
      subst e1
      constructor
      ·intro h1; omega
      ·rintro (h1 | h1)
       ·exact absurd h1.symm e2
       ·exact absurd h1 (hno c (by omega))
    ·by_cases e2 : c = v
     ·rw [if_neg e1, if_pos e2]
      have := h.b a (by omega)
      subst e2
      constructor
      ·intro h1; omega
      ·rintro (h1 | h1)
       ·exact absurd h1 e1
       ·exact absurd h1.symm (hno a (by omega))
     ·rw [if_neg e1, if_neg e2]
      exact h.e a c (by omega) (by omega)
   ·have := pr_snoc (Nat.le_refl n) out 0 h.p
    rw [Nat.max_eq_right (by omega)] at this
    exact this
theorem comp_ok (G : List (List Int)) : NI G G.length (comp G).1 (comp G).2 := by
 have := numR_ok (G := G) G.length 0 [] 0 ⟨rfl, fun i h => by omega, fun u w h => by omega, rfl⟩
 rw [Nat.zero_add] at this
 exact this

/-! ### The graph that is made -/
end Go.Proofs.Ythjkodbinkiifaa.Am23g
namespace Go.Proofs.Ythjkodbinkiifaa.Am23g
open Go Go.Proofs.Ythjkodbinkiifaa.Am Am23
/-! Components and what they reach. -/
def RQ (G : List (List Int)) (v u : Nat) : Prop := u = v ∨ Rch G v u
theorem RQ.trans {G : List (List Int)} {a b c : Nat} (h : RQ G a b) (k : RQ G b c) : RQ G a c := by
 rcases h with rfl | h
 ·exact k
 ·rcases k with rfl | k
  ·exact .inr h
  ·exact .inr (h.trans k)
noncomputable def Lc (G : List (List Int)) (v : Nat) : Nat := (comp G).1.getD v 0
theorem pr_le : ∀ (l : List Nat) (m n : Nat), pr l m = some n → n ≤ m + l.length
 | [], m, n, h => by simp only [pr, Option.some.injEq] at h; simp; omega
 | y :: l, m, n, h => by
  rw [pr] at h
  split at h
  ·have := pr_le l _ _ h; simp; omega
  ·cases h
theorem comp_n (G : List (List Int)) : (comp G).2 ≤ G.length := by
 have h := comp_ok G
 have := pr_le _ _ _ h.p
 rw [h.l] at this
 omega
theorem Lc_lt {G : List (List Int)} {v : Nat} (hv : v < G.length) : Lc G v < (comp G).2 := (comp_ok G).b v hv
theorem Lc_eq {G : List (List Int)} {u v : Nat} (hu : u < G.length) (hv : v < G.length) : Lc G u = Lc G v ↔ u = v ∨ Mu G u v := (comp_ok G).e u v hu hv
theorem Lc_RQ {G : List (List Int)} {u v : Nat} (hu : u < G.length) (hv : v < G.length) (h : Lc G u = Lc G v) : RQ G u v := by
 rcases (Lc_eq hu hv).1 h with rfl | h
 ·exact .inl rfl
 ·exact .inr h.1
/-- A component reaches a component. -/
def Abv (G : List (List Int)) (c d : Nat) : Prop := ∃ v u, v < G.length ∧ u < G.length ∧ Lc G v = c ∧ Lc G u = d ∧ RQ G v u
theorem Abv.trans {G : List (List Int)} {c d i : Nat} (h : Abv G c d) (k : Abv G d i) : Abv G c i := by
 obtain ⟨v, u, hv, hu, h1, h2, h3⟩ := h
 obtain ⟨w, x, hw, hx, k1, k2, k3⟩ := k
 exact ⟨v, x, hv, hx, h1, k2, (h3.trans (Lc_RQ hu hw (by rw [h2, k1]))).trans k3⟩
theorem Abv.anti {G : List (List Int)} {c d : Nat} (h : Abv G c d) (k : Abv G d c) : c = d := by
 obtain ⟨v, u, hv, hu, h1, h2, h3⟩ := h
 obtain ⟨w, x, hw, hx, k1, k2, k3⟩ := k
 have h4 : RQ G u v := ((Lc_RQ hu hw (by rw [h2, k1])).trans k3).trans (Lc_RQ hx hv (by rw [k2, h1]))
 rw [← h1, ← h2]
 refine (Lc_eq hv hu).2 ?_
 rcases h3 with rfl | h3
 ·exact .inl rfl
 ·rcases h4 with rfl | h4
  ·exact .inl rfl
  ·exact .inr ⟨h3, h4⟩
noncomputable def abv (G : List (List Int)) (c d : Nat) : Bool := @decide (Abv G c d) (Classical.propDecidable _)
theorem abv_iff {G : List (List Int)} {c d : Nat} : abv G c d = true ↔ Abv G c d := by unfold abv; exact @decide_eq_true_iff _ (Classical.propDecidable _)
end Go.Proofs.Ythjkodbinkiifaa.Am23g
namespace Go.Proofs.Ythjkodbinkiifaa.Am
open Go
/-! Lists of sets of eight words. -/
end Go.Proofs.Ythjkodbinkiifaa.Am
namespace Go.Proofs.Ythjkodbinkiifaa.Am23g
open Go Go.Proofs.Ythjkodbinkiifaa.Am Am23
theorem comp_get {G : List (List Int)} {v : Nat} (hv : v < G.length) : (il (nl (comp G).1))[v]? = some (.int .i64 ((Lc G v : Nat) : Int)) := by
 have hl := (comp_ok G).l
 unfold il nl Lc
 rw [List.getElem?_map, List.getElem?_map, List.getElem?_eq_getElem (by omega), List.getD_eq_getElem?_getD, List.getElem?_eq_getElem (by omega)]
 rfl
end Go.Proofs.Ythjkodbinkiifaa.Am23g
namespace Go.Proofs.Ythjkodbinkiifaa.Am23
open Go Go.Proofs.Ythjkodbinkiifaa.Am
open Am23g (addE Out Mine out_start gc_mine Gr nl)
/-! Edges within components, and between them: counted. -/
def bmp (F : Nat → Nat) (c : Nat) : Nat → Nat := stF F c (F c + 1)
def eStep (lc : Nat → Nat) (s : Nat) (E : Nat → Nat) (t : Nat) : Nat → Nat := if lc s = lc t then bmp E (lc s) else E
def oStep (lc : Nat → Nat) (s : Nat) (T : Nat → List Nat) (t : Nat) : Nat → List Nat := if lc s = lc t then T else addE T (lc s) (lc t)
def eAll (lc : Nat → Nat) (R : Nat → List Nat) : Nat → Nat → (Nat → Nat) → Nat → Nat
 | 0, _, E => E
 | d + 1, s, E => eAll lc R d (s + 1) ((R s).foldl (eStep lc s) E)
def zAll (lc : Nat → Nat) : Nat → Nat → (Nat → Nat) → Nat → Nat
 | 0, _, Z => Z
 | d + 1, s, Z => zAll lc d (s + 1) (bmp Z (lc s))
def oAll (lc : Nat → Nat) (R : Nat → List Nat) : Nat → Nat → (Nat → List Nat) → Nat → List Nat
 | 0, _, T => T
 | d + 1, s, T => oAll lc R d (s + 1) ((R s).foldl (oStep lc s) T)
theorem bmp_le {F : Nat → Nat} {M c x : Nat} (h : ∀ x, F x ≤ M) : bmp F c x ≤ M + 1 := by
 unfold bmp stF
 have := h c
 have := h x
 split <;> omega
theorem eStep_le {lc : Nat → Nat} {s : Nat} {F : Nat → Nat} {M t x : Nat} (h : ∀ x, F x ≤ M) : eStep lc s F t x ≤ M + 1 := by
 unfold eStep
 split
 ·exact bmp_le h
 ·have := h x; omega
theorem eFold_le {lc : Nat → Nat} {s : Nat} : ∀ (l : List Nat) {F : Nat → Nat} {M x : Nat}, (∀ x, F x ≤ M) → l.foldl (eStep lc s) F x ≤ M + l.length
 | [], F, M, x, h => h x
 | t :: l, F, M, x, h => by
  have := eFold_le (lc := lc) (s := s) l (F := eStep lc s F t) (M := M + 1) (x := x) (fun x => eStep_le h)
  rw [List.foldl_cons, List.length_cons]; omega
theorem oStep_len {lc : Nat → Nat} {s : Nat} {T : Nat → List Nat} {M t x : Nat} (h : ∀ x, (T x).length ≤ M) : (oStep lc s T t x).length ≤ M + 1 := by
 unfold oStep addE
 have := h x
 split
 ·omega
 ·dsimp only
  split
  ·have := h (lc s); rw [List.length_append, List.length_singleton]; omega
  ·omega
theorem oFold_len {lc : Nat → Nat} {s : Nat} : ∀ (l : List Nat) {T : Nat → List Nat} {M x : Nat}, (∀ x, (T x).length ≤ M) → (l.foldl (oStep lc s) T x).length ≤ M + l.length
 | [], T, M, x, h => h x
 | t :: l, T, M, x, h => by
  have := oFold_len (lc := lc) (s := s) l (T := oStep lc s T t) (M := M + 1) (x := x) (fun x => oStep_len h)
  rw [List.foldl_cons, List.length_cons]; omega
theorem faL_bmp {F : Nat → Nat} {N c : Nat} (h : c < N) : putList (il (faL F N)) (c * 1 + 0) [.int .i64 ((F c : Int) + 1)] = il (faL (bmp F c) N) := by
 have := faL_put (F := F) (F c + 1) h
 rw [bmp, ← this]; push_cast; rfl
/-- One is added to a count. -/
theorem own_bmp {H : AHeap} {x : Value} {o n : Nat} {F : Nat → Nat} (h : Own H 3 1 x (some o) n (il (faL F n))) {c : Nat} (hc : c < n) {prot : Nat} (hp : prot ≤ o) :
  ∃ L H', aindexAddr cfg.P 22 x (.int .i64 (c : Nat)) = some (.pointer (some ⟨o, c, some L⟩)) ∧ getCells H o L c 1 = some [.int .i64 ((F c : Nat) : Int)] ∧ setCells H prot o L c [.int .i64 ((F c : Int) + 1)] = some H' ∧
   Own H' 3 1 x (some o) n (il (faL (bmp F c) n)) ∧ Stay (some o) H H' := by
 obtain ⟨i1, L1, q1, q2⟩ := own_at T22 h (faL_get hc)
 obtain ⟨id, H2, e, s1, s2, s3, s4, s5⟩ := own_setS T22 h (i := c) (j := 0) hc (vs := [.int .i64 ((F c : Int) + 1)]) (by simp) rfl (prot := prot) (fun id e => by cases e; exact hp)
 cases e
 rw [faL_bmp hc] at s3
 rw [Nat.mul_one] at s1
 rw [Nat.mul_one, Nat.add_zero] at s2
 rw [s1] at q1
 cases q1
 exact ⟨_, H2, s1, q2, s2, s3, s4⟩
theorem out_stayQ {B : Nat} {H H' : AHeap} {x : Value} {N : Nat} {r : Nat → Value} {o : Nat → Option Nat} {o3 : Nat} {T : Nat → List Nat} (h : Out B H x N r o o3 T) {q : Nat} (s : Stay (some q) H H') (h1 : q ≠ o3) (h2 : ∀ j, j < N → o j ≠ some q) : Out B H' x N r o o3 T :=
 ⟨h.x3.stay s (fun id e1 e2 => by cases e1; exact h1 (Option.some.inj e2)), fun j hj => (h.rx j hj).stay s (fun id e1 e2 => h2 j hj (by rw [e1]; exact e2.symm)), h.b3, h.bo, h.dis⟩
/-- What Growth holds while it counts. -/
structure E31 (Hb H : AHeap) (n : Nat) (xe xz xo : Value) (pe po oe oz o3 : Nat) (r : Nat → Value) (o : Nat → Option Nat) (E Z : Nat → Nat) (T : Nat → List Nat) : Prop where
 st : Stay none Hb H
 ge : H[pe]? = some (.cells [xe] 22 1 .var)
 go : H[po]? = some (.cells [xo] 86 1 .var)
 e : Own H 3 1 xe (some oe) n (il (faL E n))
 z : Own H 3 1 xz (some oz) n (il (faL Z n))
 out : Out Hb.length H xo n r o o3 T
 d1 : oe ≠ oz
 d2 : pe ≠ oe ∧ pe ≠ oz ∧ po ≠ oe ∧ po ≠ oz
 lo : Hb.length ≤ oe ∧ Hb.length ≤ oz ∧ Hb.length ≤ pe ∧ Hb.length ≤ po
 ap : ∀ q, (q = pe ∨ q = po ∨ q = oe ∨ q = oz) → q ≠ o3 ∧ ∀ j, j < n → o j ≠ some q
section
variable {Hb H : AHeap} {n : Nat} {xe xz xo : Value} {pe po oe oz o3 : Nat} {r : Nat → Value} {o : Nat → Option Nat} {E Z : Nat → Nat} {T : Nat → List Nat}
theorem cells_stay {H H' : AHeap} {p q : Nat} {c : AObj} (h : H[p]? = some c) (s : Stay (some q) H H') (hne : p ≠ q) : H'[p]? = some c := by
 rw [s.2 _ (List.getElem?_eq_some_iff.1 h).1 (fun e => hne (Option.some.inj e).symm)]; exact h
theorem E31.bE (h : E31 Hb H n xe xz xo pe po oe oz o3 r o E Z T) {c : Nat} (hc : c < n) {prot : Nat} (hp : prot ≤ Hb.length) :
  ∃ L H', aindexAddr cfg.P 22 xe (.int .i64 (c : Nat)) = some (.pointer (some ⟨oe, c, some L⟩)) ∧ getCells H oe L c 1 = some [.int .i64 ((E c : Nat) : Int)] ∧ setCells H prot oe L c [.int .i64 ((E c : Int) + 1)] = some H' ∧
   E31 Hb H' n xe xz xo pe po oe oz o3 r o (bmp E c) Z T := by
 have hlo := h.lo
 have hd2 := h.d2
 obtain ⟨L, H', a1, a2, a3, a4, a5⟩ := own_bmp h.e hc (prot := prot) (by omega)
 have ha := h.ap oe (.inr (.inr (.inl rfl)))
 refine ⟨L, H', a1, a2, a3, ⟨h.st.over a5 (fun id e => by cases e; omega), cells_stay h.ge a5 (by omega), cells_stay h.go a5 (by omega), a4, h.z.stay a5 (fun id e1 e2 => by cases e1; exact h.d1 (Option.some.inj e2)), out_stayQ h.out a5 ha.1 ha.2, h.d1, h.d2, h.lo, h.ap⟩⟩
theorem E31.bZ (h : E31 Hb H n xe xz xo pe po oe oz o3 r o E Z T) {c : Nat} (hc : c < n) {prot : Nat} (hp : prot ≤ Hb.length) :
  ∃ L H', aindexAddr cfg.P 22 xz (.int .i64 (c : Nat)) = some (.pointer (some ⟨oz, c, some L⟩)) ∧ getCells H oz L c 1 = some [.int .i64 ((Z c : Nat) : Int)] ∧ setCells H prot oz L c [.int .i64 ((Z c : Int) + 1)] = some H' ∧
   E31 Hb H' n xe xz xo pe po oe oz o3 r o E (bmp Z c) T := by
 have hlo := h.lo
 have hd2 := h.d2
 obtain ⟨L, H', a1, a2, a3, a4, a5⟩ := own_bmp h.z hc (prot := prot) (by omega)
 have ha := h.ap oz (.inr (.inr (.inr rfl)))
 refine ⟨L, H', a1, a2, a3, ⟨h.st.over a5 (fun id e => by cases e; omega), cells_stay h.ge a5 (by omega), cells_stay h.go a5 (by omega), h.e.stay a5 (fun id e1 e2 => by cases e1; exact h.d1 (Option.some.inj e2).symm), a4, out_stayQ h.out a5 ha.1 ha.2, h.d1, h.d2, h.lo, h.ap⟩⟩
theorem E31.bT (h : E31 Hb H n xe xz xo pe po oe oz o3 r o E Z T) {c : Nat} (hc : c < n) (v : Nat) (hl : (T c).length ≤ 10000000) {prot : Nat} (hp : prot ≤ Hb.length) {room : Bool} :
  ∃ a' c' H2 H3 id3 L3, aindexAddr cfg.P 86 xo (.int .i64 (c : Nat)) = some (.pointer (some ⟨id3, c, some L3⟩)) ∧ getCells H id3 L3 c 1 = some [r c] ∧
   aappend cfg.P prot room 22 22 (r c) (.slice (some ⟨H.length, 0, some (1 * 1)⟩) 1 1) (H ++ [wo [.int .i64 (v : Int)] 3]) = some (.slice a' ((T c).length + 1) c', H2) ∧
   setCells H2 prot id3 L3 c [.slice a' ((T c).length + 1) c'] = some H3 ∧ ∃ r' o', E31 Hb H3 n xe xz xo pe po oe oz o3 r' o' E Z (addE T c v) := by
 have hst := h.st.1
 obtain ⟨a', c', H2, H3, id3, L3, q1, q2, q3, q4, ⟨r', o', q5, q6⟩, q7, q8⟩ := Am23g.Out.appQ (p := prot) hp h.out hc v (room := room) hl hst
 refine ⟨a', c', H2, H3, id3, L3, q1, q2, q3, q4, r', o', ?_⟩
 have keep : ∀ q x, (q = pe ∨ q = po ∨ q = oe ∨ q = oz) → H[q]? = some x → H3[q]? = some x := fun q x hq hx => by
  obtain ⟨k1, k2⟩ := h.ap q hq
  rw [q7 q (List.getElem?_eq_some_iff.1 hx).1 k1 k2]; exact hx
 have hx3 := h.out.b3
 refine ⟨⟨by omega, fun q hq _ => ?_⟩, keep _ _ (.inl rfl) h.ge, keep _ _ (.inr (.inl rfl)) h.go, ?_, ?_, q5, h.d1, h.d2, h.lo, fun q hq => ?_⟩
 ·rw [q7 q (by omega) (by omega) (fun j hj e => by have := h.out.bo j hj q e; omega)]
  exact h.st.2 q hq (by simp)
 ·obtain ⟨e1, e2, e3, wr, e4, e5⟩ := h.e
  exact ⟨e1, e2, e3, wr, e4, keep _ _ (.inr (.inr (.inl rfl))) e5⟩
 ·obtain ⟨e1, e2, e3, wr, e4, e5⟩ := h.z
  exact ⟨e1, e2, e3, wr, e4, keep _ _ (.inr (.inr (.inr rfl))) e5⟩
 ·obtain ⟨k1, k2⟩ := h.ap q hq
  refine ⟨k1, fun j hj e => ?_⟩
  rcases q6 j q hj e with g | g
  ·exact k2 j hj g
  ·have : q < H.length := by
    rcases hq with rfl | rfl | rfl | rfl
    ·exact (List.getElem?_eq_some_iff.1 h.ge).1
    ·exact (List.getElem?_eq_some_iff.1 h.go).1
    ·exact own_lt h.e
    ·exact own_lt h.z
   omega
end
end Go.Proofs.Ythjkodbinkiifaa.Am23
set_option linter.unusedVariables false
open Go Go.Proofs.Ythjkodbinkiifaa.Am
namespace Go.Proofs.Ythjkodbinkiifaa.Am23
end Go.Proofs.Ythjkodbinkiifaa.Am23
namespace Go.Proofs.Ythjkodbinkiifaa.Am23
open Go Go.Proofs.Ythjkodbinkiifaa.Am

theorem pigeon : ∀ (n : Nat) (f : Nat → Nat), (∀ i, i ≤ n → f i < n) → ∃ i j, i < j ∧ j ≤ n ∧ f i = f j
 | 0, f, h => by have := h 0 (Nat.le_refl _); omega
 | n + 1, f, h => by
  by_cases hh : ∃ i, i ≤ n ∧ f i = f (n + 1)
  ·obtain ⟨i, h1, h2⟩ := hh
   exact ⟨i, n + 1, by omega, by omega, h2⟩
  ·have hne : ∀ i, i ≤ n → f i ≠ f (n + 1) := fun i hi he => hh ⟨i, hi, he⟩
   have hv := h (n + 1) (Nat.le_refl _)
   obtain ⟨i, j, h1, h2, h3⟩ := pigeon n (fun i => if f i = n then f (n + 1) else f i) (fun i hi => by
    have h1 := h i (by omega)
    have h2 := hne i hi
    split <;> omega)
   refine ⟨i, j, h1, by omega, ?_⟩
   have hi := hne i (by omega)
   have hj := hne j h2
   split at h3 <;> split at h3 <;> omega

theorem pass_pos {k : Nat} {xs : List Int} {bs : List Bool} (hG : Good k xs bs) {C : List Nat} : ∀ (d i : Nat) (D : List Nat), i + d = xs.length → D.length = bs.length → ∀ s, s < bs.length →
  (0 < (pass k xs C d i D).getD s 0 ↔ 0 < D.getD s 0 ∨ ∃ j, i ≤ j ∧ j < xs.length ∧ j / k = s ∧ 0 < C.getD (xs.getD j 0).toNat 0)
 | 0, i, D, hi, hD, s, hs => by
  simp only [pass]
  exact ⟨.inl, fun h => by rcases h with h | ⟨j, h1, h2, _⟩; exact h; omega⟩
 | d + 1, i, D, hi, hD, s, hs => by
  have hk := hG.k1
  have hxl := hG.nx
  have hsi : i / k < bs.length := Nat.div_lt_of_lt_mul (by rw [Nat.mul_comm]; omega)
  simp only [pass]
  rw [pass_pos hG d (i + 1) _ (by omega) (by simp [hD]) s hs, getD_set (by omega)]
  constructor
  ·rintro (h | ⟨j, h1, h2, h3, h4⟩)
   ·by_cases he : s = i / k
    ·rw [if_pos he] at h
     by_cases hc : 0 < C.getD (xs.getD i 0).toNat 0
     ·exact .inr ⟨i, Nat.le_refl _, by omega, he.symm, hc⟩
     ·exact .inl (by rw [he]; omega)
    ·rw [if_neg he] at h; exact .inl h
   ·exact .inr ⟨j, by omega, h2, h3, h4⟩
  ·rintro (h | ⟨j, h1, h2, h3, h4⟩)
   ·by_cases he : s = i / k
    ·rw [if_pos he]; subst he; exact .inl (by omega)
    ·rw [if_neg he]; exact .inl h
   ·by_cases he : j = i
    ·subst he; rw [if_pos h3.symm]; exact .inl (by omega)
    ·exact .inr ⟨j, by omega, h2, h3, h4⟩
/-- Words of a length are counted where there are some. -/
theorem row_pos {k : Nat} {xs : List Int} {bs : List Bool} (hG : Good k xs bs) : ∀ (m s : Nat), s < bs.length → (0 < (rowC k xs bs m).getD s 0 ↔ ∃ w, Wk k w ∧ w.length = m ∧ bs.getD (go k xs s w) false = true)
 | 0, s, hs => by
  simp only [rowC, List.getD_eq_getElem?_getD, List.getElem?_map, List.getElem?_eq_getElem hs, Option.map_some, Option.getD_some]
  constructor
  ·intro h
   refine ⟨[], fun c hc => (by cases hc), rfl, ?_⟩
   show bs[s]?.getD false = true
   rw [List.getElem?_eq_getElem hs]
   cases hb : bs[s] with
   | true => rfl
   | false => rw [hb] at h; simp [b2n] at h
  ·rintro ⟨w, _, h2, h3⟩
   obtain rfl := List.length_eq_zero_iff.1 h2
   have h3 : bs[s]?.getD false = true := h3
   rw [List.getElem?_eq_getElem hs] at h3
   have h3 : bs[s] = true := h3
   rw [h3]
   simp [b2n]
 | m + 1, s, hs => by
  have hk := hG.k1
  simp only [rowC]
  rw [pass_pos hG xs.length 0 _ (by omega) (by simp) s hs]
  have h0 : ¬ 0 < (List.replicate bs.length 0).getD s 0 := by rw [List.getD_eq_getElem?_getD, List.getElem?_replicate]; split <;> simp
  constructor
  ·rintro (h | ⟨j, _, h2, h3, h4⟩)
   ·exact absurd h h0
   ·obtain ⟨t, ht, htl⟩ := hG.r j xs[j] (List.getElem?_eq_getElem h2)
    have hget : xs.getD j 0 = t := by rw [List.getD_eq_getElem?_getD, List.getElem?_eq_getElem h2, ht]; rfl
    rw [hget, Int.toNat_natCast] at h4
    obtain ⟨w, w1, w2, w3⟩ := (row_pos hG m t htl).1 h4
    have hdm := Nat.div_add_mod j k
    have e : s * k + j % k = j := by rw [← h3, Nat.mul_comm]; exact hdm
    refine ⟨(j % k) :: w, fun d hd => ?_, by simp [w2], ?_⟩
    ·rcases List.mem_cons.1 hd with rfl | hd
     ·exact Nat.mod_lt _ (by omega)
     ·exact w1 d hd
    ·show bs.getD (go k xs (tgt k xs s (j % k)) w) false = true
     unfold tgt
     rw [e, hget, Int.toNat_natCast]
     exact w3
  ·rintro ⟨w, w1, w2, w3⟩
   cases w with
   | nil => cases w2
   | cons c w =>
    obtain ⟨h1, h2, h3⟩ := tgt_lt hG hs (w1 c List.mem_cons_self)
    have hck := w1 c List.mem_cons_self
    refine .inr ⟨s * k + c, by omega, h1, by rw [Nat.mul_comm, Nat.mul_add_div (by omega), Nat.div_eq_of_lt hck, Nat.add_zero], ?_⟩
    exact (row_pos hG m _ h2).2 ⟨w, fun d hd => w1 d (List.mem_cons_of_mem _ hd), by simpa using w2, w3⟩

/-- A long way goes round. -/
theorem round {k : Nat} {xs : List Int} {bs : List Bool} (hG : Good k xs bs) {w : List Nat} (hw : Wk k w) : ∃ i j, i < j ∧ j ≤ bs.length ∧ go k xs 0 (w.take i) = go k xs 0 (w.take j) := by
 have hb1 := hG.n1
 exact pigeon bs.length (fun i => go k xs 0 (w.take i)) (fun i _ => go_lt hG _ _ (fun c hc => hw c (List.mem_of_mem_take hc)) (by omega))
theorem wk_app {k : Nat} {u v : List Nat} (hu : Wk k u) (hv : Wk k v) : Wk k (u ++ v) := fun c hc => by
 rcases List.mem_append.1 hc with h | h
 ·exact hu c h
 ·exact hv c h
theorem shorten {k : Nat} {xs : List Int} {bs : List Bool} (hG : Good k xs bs) : ∀ (L : Nat) (w : List Nat), w.length ≤ L → bs.length ≤ w.length → Wk k w → bs.getD (go k xs 0 w) false = true →
  ∃ w', Wk k w' ∧ bs.length ≤ w'.length ∧ w'.length < 2 * bs.length ∧ bs.getD (go k xs 0 w') false = true
 | 0, w, hL, hn, hw, ha => by have := hG.n1; omega
 | L + 1, w, hL, hn, hw, ha => by
  by_cases h2 : w.length < 2 * bs.length
  ·exact ⟨w, hw, hn, h2, ha⟩
  ·obtain ⟨i, j, h3, h4, h5⟩ := round hG hw
   refine shorten hG L (w.take i ++ w.drop j) (by simp; omega) (by simp; omega) (wk_app (fun c hc => hw c (List.mem_of_mem_take hc)) (fun c hc => hw c (List.mem_of_mem_drop hc))) ?_
   rw [go_app, h5, ← go_app, List.take_append_drop]
   exact ha
theorem hope_at {k : Nat} {xs : List Int} {bs : List Bool} {s : Nat} (hs : s < bs.length) : (hopeL k xs bs).getD s false = true ↔ Hope k xs bs s := by
 rw [List.getD_eq_getElem?_getD, List.getElem?_eq_getElem (by rw [hopeL_len]; exact hs), Option.getD_some, hopeL_get]
 exact ⟨fun h => @of_decide_eq_true _ (Classical.propDecidable _) h, fun h => @decide_eq_true _ (Classical.propDecidable _) h⟩
theorem okB_iff {k : Nat} {xs : List Int} {bs : List Bool} (hG : Good k xs bs) {s : Nat} (hs : s < bs.length) : okB k xs bs.length (useL k xs bs) s = true ↔ (∃ u, Wk k u ∧ go k xs 0 u = s) ∧ Hope k xs bs s ∧ ∃ v, Wk k v ∧ go k xs s v = s ∧ v ≠ [] := by
 have hb1 := hG.n1
 unfold okB
 rw [useL_at hs, Bool.and_eq_true, Bool.and_eq_true, bfs_met hG (by omega) true, hope_at hs, bfs_met hG hs false]
 constructor
 ·rintro ⟨⟨⟨u, u1, u2, _⟩, h2⟩, v, v1, v2, v3⟩
  exact ⟨⟨u, u1, u2⟩, h2, v, v1, v2, v3 rfl⟩
 ·rintro ⟨⟨u, u1, u2⟩, h2, v, v1, v2, v3⟩
  exact ⟨⟨⟨u, u1, u2, fun h => by cases h⟩, h2⟩, v, v1, v2, fun _ => v3⟩
def pw (v : List Nat) : Nat → List Nat
 | 0 => []
 | n + 1 => v ++ pw v n
theorem pw_go {k : Nat} {xs : List Int} {s : Nat} {v : List Nat} (h : go k xs s v = s) : ∀ n, go k xs s (pw v n) = s
 | 0 => rfl
 | n + 1 => by rw [pw, go_app, h, pw_go h n]
theorem pw_wk {k : Nat} {v : List Nat} (h : Wk k v) : ∀ n, Wk k (pw v n)
 | 0 => fun c hc => by cases hc
 | n + 1 => wk_app h (pw_wk h n)
theorem pw_len {v : List Nat} (h : v ≠ []) : ∀ n, n ≤ (pw v n).length
 | 0 => Nat.zero_le _
 | n + 1 => by
  have := pw_len h n
  have h1 : 0 < v.length := List.length_pos_iff.2 h
  rw [pw, List.length_append]
  omega
/-- Not finite just where there is a word that is long, and not too long. -/
theorem finite_iff {k : Nat} {xs : List Int} {bs : List Bool} (hG : Good k xs bs) : (boundV k xs bs).1 = true ↔ ∀ m, bs.length ≤ m → m < 2 * bs.length → (rowC k xs bs m).getD 0 0 = 0 := by
 have hb1 := hG.n1
 have hbv : (boundV k xs bs).1 = true ↔ bestV k xs bs = none := by
  unfold boundV
  cases bestV k xs bs with
  | none => simp
  | some b => simp
 rw [hbv]
 constructor
 ·intro h m h1 h2
  refine Nat.eq_zero_of_not_pos fun hp => ?_
  obtain ⟨w, w1, w2, w3⟩ := (row_pos hG m 0 (by omega)).1 hp
  obtain ⟨i, j, h3, h4, h5⟩ := round hG w1
  have hl : go k xs 0 (w.take i) < bs.length := go_lt hG _ _ (fun c hc => w1 c (List.mem_of_mem_take hc)) (by omega)
  obtain ⟨_, hn⟩ := pick_none _ _ _ h
  have := hn _ (Nat.zero_le _) (by omega : go k xs 0 (w.take i) < 0 + bs.length)
  rw [(okB_iff hG hl).2 ⟨⟨_, fun c hc => w1 c (List.mem_of_mem_take hc), rfl⟩, ⟨w.drop j, fun c hc => w1 c (List.mem_of_mem_drop hc), ?_⟩, (w.take j).drop i, fun c hc => w1 c (List.mem_of_mem_take (List.mem_of_mem_drop hc)), ?_, ?_⟩] at this
  ·cases this
  ·rw [h5, ← go_app, List.take_append_drop]; exact w3
  ·have e : (w.take j).take i = w.take i := by rw [List.take_take, Nat.min_eq_left (by omega)]
   rw [← go_app, ← e, List.take_append_drop]
   exact h5.symm.trans (by rw [e])
  ·intro h6
   have := congrArg List.length h6
   simp at this
   omega
 ·intro h
  cases hb : bestV k xs bs with
  | none => rfl
  | some b =>
   obtain ⟨hbl, hok, _⟩ := best_end hG hb
   obtain ⟨⟨u, u1, u2⟩, ⟨z, z1, z2⟩, v, v1, v2, v3⟩ := (okB_iff hG hbl).1 hok
   obtain ⟨w', w1, w2, w3, w4⟩ := shorten hG _ (u ++ (pw v bs.length ++ z)) (Nat.le_refl _) (by have := pw_len v3 bs.length; simp only [List.length_append]; omega) (wk_app u1 (wk_app (pw_wk v1 _) z1)) (by rw [go_app, u2, go_app, pw_go v2]; exact z2)
   have := (row_pos hG w'.length 0 (by omega)).2 ⟨w', w1, rfl, w4⟩
   rw [h _ w2 w3] at this
   omega

end Go.Proofs.Ythjkodbinkiifaa.Am23
namespace Go.Proofs.Ythjkodbinkiifaa.Am23
open Go Go.Proofs.Ythjkodbinkiifaa.Am
open Am23g (addE Out Mine out_start gc_mine Gr nl Rch sc)
/-! What the longest word is, in plain terms. -/
noncomputable def gU (k : Nat) (xs : List Int) (bs : List Bool) : List (List Int) := (List.range bs.length).map fun s => nl (inL k xs (uB k xs bs) s)
theorem gU_len (k : Nat) (xs : List Int) (bs : List Bool) : (gU k xs bs).length = bs.length := by simp [gU]
theorem gU_get {k : Nat} {xs : List Int} {bs : List Bool} {s : Nat} (h : s < bs.length) : (gU k xs bs)[s]? = some (nl (inL k xs (uB k xs bs) s)) := by
 unfold gU; rw [List.getElem?_map, List.getElem?_range h]; rfl
theorem sc_gU {k : Nat} {xs : List Int} {bs : List Bool} {s : Nat} (h : s < bs.length) : sc (gU k xs bs) s = inL k xs (uB k xs bs) s := by
 unfold sc
 rw [List.getD_eq_getElem?_getD, gU_get h, Option.getD_some]
 unfold nl
 rw [List.map_map]
 conv => rhs; rw [← List.map_id (inL k xs (uB k xs bs) s)]
 exact List.map_congr_left fun x _ => by simp
theorem sc_lt' {k : Nat} {xs : List Int} {bs : List Bool} {s t : Nat} (h : t ∈ sc (gU k xs bs) s) : s < bs.length := by
 rcases Nat.lt_or_ge s bs.length with h1 | h1
 ·exact h1
 ·unfold sc at h
  rw [List.getD_eq_getElem?_getD, List.getElem?_eq_none (by rw [gU_len]; exact h1)] at h
  simp at h
theorem inL_mem {k : Nat} {xs : List Int} {U : Nat → Bool} {s t : Nat} : t ∈ inL k xs U s ↔ U s = true ∧ U t = true ∧ ∃ c, c < k ∧ tgt k xs s c = t := by
 unfold inL
 split
 ·rename_i h
  rw [List.mem_filter, List.mem_map]
  constructor
  ·rintro ⟨⟨c, hc, e⟩, hu⟩
   exact ⟨h, hu, c, List.mem_range.1 hc, e⟩
  ·rintro ⟨_, hu, c, hc, e⟩
   exact ⟨⟨c, List.mem_range.2 hc, e⟩, hu⟩
 ·rename_i h
  constructor
  ·intro h'; cases h'
  ·rintro ⟨h', _⟩; exact absurd h' h
theorem uB_iff {k : Nat} {xs : List Int} {bs : List Bool} (hG : Good k xs bs) {s : Nat} : uB k xs bs s = true ↔ s < bs.length ∧ (∃ w, Wk k w ∧ go k xs 0 w = s) ∧ Hope k xs bs s := by
 have hn1 := hG.n1
 unfold uB
 by_cases hs : s < bs.length
 ·rw [useL_at hs, Bool.and_eq_true, bfs_met hG (by omega)]
  have hl := hopeL_len k xs bs
  rw [List.getD_eq_getElem?_getD, List.getElem?_eq_getElem (by omega), Option.getD_some, hopeL_get (by omega), @decide_eq_true_iff _ (Classical.propDecidable _)]
  constructor
  ·rintro ⟨⟨w, h1, h2, _⟩, h3⟩
   exact ⟨hs, ⟨w, h1, h2⟩, h3⟩
  ·rintro ⟨_, ⟨w, h1, h2⟩, h3⟩
   exact ⟨⟨w, h1, h2, fun h => by cases h⟩, h3⟩
 ·rw [List.getD_eq_getElem?_getD, List.getElem?_eq_none (by rw [useL_len]; omega)]
  constructor
  ·intro h; cases h
  ·rintro ⟨h, _⟩; exact absurd h hs
theorem uB_lt {k : Nat} {xs : List Int} {bs : List Bool} (hG : Good k xs bs) {s : Nat} (h : uB k xs bs s = true) : s < bs.length := ((uB_iff hG).1 h).1
/-- A way of useful states is a word. -/
theorem rch_word {k : Nat} {xs : List Int} {bs : List Bool} (hG : Good k xs bs) {s t : Nat} (h : Rch (gU k xs bs) s t) : uB k xs bs s = true ∧ uB k xs bs t = true ∧ ∃ w, Wk k w ∧ w ≠ [] ∧ go k xs s w = t := by
 induction h with
 | one e =>
  rw [sc_gU (sc_lt' e)] at e
  obtain ⟨h1, h2, c, hc, e⟩ := inL_mem.1 e
  exact ⟨h1, h2, [c], fun d hd => by rw [List.mem_singleton] at hd; omega, by simp, e⟩
 | step _ e ih =>
  rw [sc_gU (sc_lt' e)] at e
  obtain ⟨_, h2, c, hc, e⟩ := inL_mem.1 e
  obtain ⟨g1, _, w, g3, g4, g5⟩ := ih
  refine ⟨g1, h2, w ++ [c], fun d hd => ?_, by simp, by rw [go_app, g5]; exact e⟩
  rcases List.mem_append.1 hd with hd | hd
  ·exact g3 d hd
  ·rw [List.mem_singleton] at hd; omega
/-- Finite: no useful state leads back to itself. -/
theorem no_cycle {k : Nat} {xs : List Int} {bs : List Bool} (hG : Good k xs bs) (hf : (boundV k xs bs).1 = true) {s : Nat} : ¬ Rch (gU k xs bs) s s := by
 intro h
 obtain ⟨h1, _, w, h2, h3, h4⟩ := rch_word hG h
 have hbv : bestV k xs bs = none := by
  unfold boundV at hf
  cases hb : bestV k xs bs with
  | none => rfl
  | some b => rw [hb] at hf; cases hf
 have hs := uB_lt hG h1
 have := (pick_none bs.length 0 none hbv).2 s (by omega) (by omega)
 unfold okB at this
 rw [Bool.and_eq_false_iff] at this
 rcases this with h5 | h5
 ·unfold uB at h1; rw [h1] at h5; cases h5
 ·have := (bfs_met hG hs false s).2 ⟨w, h2, h4, fun _ => h3⟩
  rw [this] at h5; cases h5
noncomputable def aU (k : Nat) (xs : List Int) (bs : List Bool) (c d : Nat) : Bool := @decide (Rch (gU k xs bs) c d) (Classical.propDecidable _)
theorem aU_iff {k : Nat} {xs : List Int} {bs : List Bool} {c d : Nat} : aU k xs bs c d = true ↔ Rch (gU k xs bs) c d := by unfold aU; exact @decide_eq_true_iff _ (Classical.propDecidable _)
noncomputable def hU (k : Nat) (xs : List Int) (bs : List Bool) : Nat → Nat := hgt (aU k xs bs) bs.length bs.length
theorem hU_ok {k : Nat} {xs : List Int} {bs : List Bool} (hG : Good k xs bs) (hf : (boundV k xs bs).1 = true) : Ht (aU k xs bs) bs.length (hU k xs bs) :=
 hgt_ok (fun c d e h1 h2 => aU_iff.2 ((aU_iff.1 h1).trans (aU_iff.1 h2))) (fun c d h1 h2 => absurd ((aU_iff.1 h1).trans (aU_iff.1 h2)) (no_cycle hG hf))
/-- A way begins with an edge. -/
theorem rch_first {G : List (List Int)} {s t : Nat} (h : Rch G s t) : t ∈ sc G s ∨ ∃ e, e ∈ sc G s ∧ Rch G e t := by
 induction h with
 | one e => exact .inl e
 | step _ e ih =>
  rcases ih with h | ⟨x, h1, h2⟩
  ·exact .inr ⟨_, h, .one e⟩
  ·exact .inr ⟨x, h1, .step h2 e⟩
/-- The height over edges alone. -/
theorem hU_edges {k : Nat} {xs : List Int} {bs : List Bool} (hG : Good k xs bs) (hf : (boundV k xs bs).1 = true) : Ht (fun c d => decide (d ∈ inL k xs (uB k xs bs) c)) bs.length (hU k xs bs) := by
 have hh := hU_ok hG hf
 have ed : ∀ c d, d ∈ inL k xs (uB k xs bs) c → Rch (gU k xs bs) c d ∧ d < bs.length := fun c d h => by
  have h' := inL_mem.1 h
  have hc := uB_lt hG h'.1
  exact ⟨.one (by rw [sc_gU hc]; exact h), uB_lt hG h'.2.1⟩
 refine ⟨fun c d hc hd hne ha => hh.ge c d hc hd hne (aU_iff.2 (ed c d (of_decide_eq_true ha)).1), fun c hc => ?_, hh.lt⟩
 rcases hh.ex c hc with e | ⟨d, h1, h2, h3, h4⟩
 ·exact .inl e
 ·rcases rch_first (aU_iff.1 h3) with h5 | ⟨x, h5, h6⟩
  ·rw [sc_gU hc] at h5
   exact .inr ⟨d, h1, h2, decide_eq_true h5, h4⟩
  ·rw [sc_gU hc] at h5
   obtain ⟨h7, h8⟩ := ed c x h5
   have hxd : d ≠ x := fun e => by subst e; exact no_cycle hG hf h6
   have hxc : x ≠ c := fun e => by subst e; exact no_cycle hG hf h7
   have g1 := hh.ge x d h8 h1 hxd (aU_iff.2 h6)
   have g2 := hh.ge c x hc h8 hxc (aU_iff.2 h7)
   omega
/-- A word to an accepted state goes by useful states alone. -/
theorem word_high {k : Nat} {xs : List Int} {bs : List Bool} (hG : Good k xs bs) (hf : (boundV k xs bs).1 = true) : ∀ (w : List Nat) (s : Nat), uB k xs bs s = true → Wk k w → bs.getD (go k xs s w) false = true → w.length ≤ hU k xs bs s
 | [], _, _, _, _ => Nat.zero_le _
 | c :: w, s, hs, hw, ha => by
  have hk : c < k := hw c List.mem_cons_self
  obtain ⟨h1, ⟨u, h2, h3⟩, h4⟩ := (uB_iff hG).1 hs
  have htl := (tgt_lt hG h1 hk).2.1
  have hw' : Wk k w := fun d hd => hw d (List.mem_cons_of_mem _ hd)
  have ht : uB k xs bs (tgt k xs s c) = true := (uB_iff hG).2 ⟨htl, ⟨u ++ [c], fun d hd => by
   rcases List.mem_append.1 hd with hd | hd
   ·exact h2 d hd
   ·rw [List.mem_singleton] at hd; omega, by rw [go_app, h3]; rfl⟩, ⟨w, hw', ha⟩⟩
  have ih := word_high hG hf w _ ht hw' ha
  have hm : tgt k xs s c ∈ inL k xs (uB k xs bs) s := inL_mem.2 ⟨hs, ht, c, hk, rfl⟩
  have hr : Rch (gU k xs bs) s (tgt k xs s c) := .one (by rw [sc_gU h1]; exact hm)
  have hne : tgt k xs s c ≠ s := fun e => by rw [e] at hr; exact no_cycle hG hf hr
  have := (hU_edges hG hf).ge s _ h1 htl hne (decide_eq_true hm)
  rw [List.length_cons]
  omega
/-- There is a word of the height's length. -/
theorem high_word {k : Nat} {xs : List Int} {bs : List Bool} (hG : Good k xs bs) (hf : (boundV k xs bs).1 = true) : ∀ (m s : Nat), uB k xs bs s = true → hU k xs bs s = m → ∃ w, Wk k w ∧ w.length = m ∧ bs.getD (go k xs s w) false = true
 | 0, s, hs, hm => by
  obtain ⟨h1, ⟨u, h2, h3⟩, w, h4, h5⟩ := (uB_iff hG).1 hs
  have := word_high hG hf w s hs h4 h5
  have hw : w = [] := List.eq_nil_of_length_eq_zero (by omega)
  subst hw
  exact ⟨[], h4, rfl, h5⟩
 | m + 1, s, hs, hm => by
  rcases (hU_edges hG hf).ex s (uB_lt hG hs) with e | ⟨d, d1, d2, d3, d4⟩
  ·omega
  ·obtain ⟨_, g2, c, hc, e⟩ := inL_mem.1 (of_decide_eq_true d3)
   obtain ⟨w, w1, w2, w3⟩ := high_word hG hf m d g2 (by omega)
   refine ⟨c :: w, fun x hx => ?_, by simp [w2], ?_⟩
   ·rcases List.mem_cons.1 hx with rfl | hx
    ·exact hc
    ·exact w1 x hx
   ·show bs.getD (go k xs (tgt k xs s c) w) false = true
    rw [e]; exact w3
/-- What Longest answers. -/
noncomputable def longV (k : Int) (xs : List Int) (bs : List Bool) : Nat × Bool :=
 if chkG k xs bs = 0 ∧ (boundV k.toNat xs bs).1 = true ∧ uB k.toNat xs bs 0 = true then (hU k.toNat xs bs 0, true) else (0, false)
end Go.Proofs.Ythjkodbinkiifaa.Am23
set_option linter.unusedVariables false
open Go Go.Proofs.Ythjkodbinkiifaa.Am
namespace Go.Proofs.Ythjkodbinkiifaa.Am23
section
variable {x0a x11a x12 x17a x24a x30a x37 : Int}
variable {x0ba x0ca x11ba x11ca x17ba x17ca x24ba x24ca x25a x30ba x30ca x31a x32a : Option Addr}
variable {x0bn x0bc x0cn x0cc prot x11bn x11bc x11cn x11cc x17bn x17bc x17cn x17cc x24bn x24bc x24cn x24cc x25n x25c x26p x26o x26l x30bn x30bc x30cn x30cc x31n x31c x32n x32c x36ap x36ao x36al x36bp x36bo x36bl x36cp x36co x36cl : Nat}
variable {H H1 H2 H3 H4 H5 H6 H7 : AHeap}
variable {x18a x27 : Bool}
variable {x18ba x18bb x18bc : ByteArray}
theorem f30_F_0 (h1 : [vI x0a, vS x0ba x0bn x0bc, vS x0ca x0cn x0cc].all isCell = true) (h2 : getCells (H ++ [vo [vI x0a, vS x0ba x0bn x0bc, vS x0ca x0cn x0cc] 25]) H.length 3 0 3 = some [vI x11a, vS x11ba x11bn x11bc, vS x11ca x11cn x11cc]) (h3 : cI 36 [Value.agg #[vI x11a, vS x11ba x11bn x11bc, vS x11ca x11cn x11cc]] H.length (H ++ [vo [vI x0a, vS x0ba x0bn x0bc, vS x0ca x0cn x0cc] 25]) = some (vI x12, H ++ [vo [vI x0a, vS x0ba x0bn x0bc, vS x0ca x0cn x0cc] 25])) (h4 : (x12 != 0) = true) : callInf cfg 30 [.agg #[.int .i64 x0a, .slice x0ba x0bn x0bc, .slice x0ca x0cn x0cc]] prot H = some (Value.tuple { toList := [Value.int .i64 0, Value.bool false, Value.int .i64 x12] }, H) :=
 fn_of2 a30 [.e, .v (.agg #[vI x11a, vS x11ba x11bn x11bc, vS x11ca x11cn x11cc]), .v (vI x12), .e, .b true] (ai h1 (ai h2 (ai h3 (ai h4 (Eq.refl ((Value.tuple #[vI 0, Value.bool false, vI x12], H) : Value × AHeap)))))) (by kernel_rfl) rfl
theorem f30_F_1 (h1 : [vI x0a, vS x0ba x0bn x0bc, vS x0ca x0cn x0cc].all isCell = true) (h2 : getCells (H ++ [vo [vI x0a, vS x0ba x0bn x0bc, vS x0ca x0cn x0cc] 25]) H.length 3 0 3 = some [vI x11a, vS x11ba x11bn x11bc, vS x11ca x11cn x11cc]) (h3 : cI 36 [Value.agg #[vI x11a, vS x11ba x11bn x11bc, vS x11ca x11cn x11cc]] H.length (H ++ [vo [vI x0a, vS x0ba x0bn x0bc, vS x0ca x0cn x0cc] 25]) = some (vI x12, H ++ [vo [vI x0a, vS x0ba x0bn x0bc, vS x0ca x0cn x0cc] 25])) (h4 : (x12 != 0) = false) (h5 : getCells (H ++ [vo [vI x0a, vS x0ba x0bn x0bc, vS x0ca x0cn x0cc] 25]) H.length 3 0 3 = some [vI x17a, vS x17ba x17bn x17bc, vS x17ca x17cn x17cc]) (h6 : cI 37 [Value.agg #[vI x17a, vS x17ba x17bn x17bc, vS x17ca x17cn x17cc]] H.length (H ++ [vo [vI x0a, vS x0ba x0bn x0bc, vS x0ca x0cn x0cc] 25]) = some (Value.tuple #[Value.bool x18a, Value.agg #[Value.string x18ba, Value.string x18bb, Value.string x18bc]], H ++ [vo [vI x0a, vS x0ba x0bn x0bc, vS x0ca x0cn x0cc] 25])) (h7 : 3 = 3) (h8 : setCells (H ++ [vo [vI x0a, vS x0ba x0bn x0bc, vS x0ca x0cn x0cc] 25] ++ [vo [vE, vE, vE] 29]) H.length (List.length (H ++ [vo [vI x0a, vS x0ba x0bn x0bc, vS x0ca x0cn x0cc] 25])) 3 0 [Value.string x18ba, Value.string x18bb, Value.string x18bc] = some H1) (h9 : (!x18a) = false) (h10 : getCells H1 H.length 3 0 3 = some [vI x24a, vS x24ba x24bn x24bc, vS x24ca x24cn x24cc]) (h11 : cI 53 [Value.agg #[vI x24a, vS x24ba x24bn x24bc, vS x24ca x24cn x24cc]] H.length H1 = some (vS x25a x25n x25c, H2)) (h12 : aX 23 (vS x25a x25n x25c) (vI 0) = some (vP x26p x26o x26l)) (h13 : getCells H2 x26p x26l x26o 1 = some [Value.bool x27]) (h14 : (!x27) = false) (h15 : getCells H2 H.length 3 0 3 = some [vI x30a, vS x30ba x30bn x30bc, vS x30ca x30cn x30cc]) (h16 : cI 54 [Value.agg #[vI x30a, vS x30ba x30bn x30bc, vS x30ca x30cn x30cc]] H.length H2 = some (vS x31a x31n x31c, H3)) (h17 : 1 = 1) (h18 : setCells (H3 ++ [vo [vS none 0 0] 86]) H.length H3.length 1 0 [vS x31a x31n x31c] = some H4) (h19 : getCells H4 H3.length 1 0 1 = some [vS x32a x32n x32c]) (h20 : 0 ≤ (↑x32n : Int)) (h21 : (↑x32n : Int) = (↑x32n : Int)) (h22 : (↑x32n : Int) ≤ 9223372036854775807) (h23 : (↑8 : Int) * (↑x32n : Int) ≤ 2 ^ 48) (h24 : 1 = 1) (h25 : setCells (H4 ++ [AObj.cells (repCells [vI 0] (↑x32n : Int).toNat) 3 (repCells [vI 0] (↑x32n : Int).toNat).length OMode.row] ++ [vo [vS none 0 0] 22]) H.length (List.length (H4 ++ [AObj.cells (repCells [vI 0] (↑x32n : Int).toNat) 3 (repCells [vI 0] (↑x32n : Int).toNat).length OMode.row])) 1 0 [vS (some ⟨H4.length, 0, some ((↑x32n : Int).toNat * 1)⟩) (↑x32n : Int).toNat (↑x32n : Int).toNat] = some H5) (h26 : [Value.func (Fn.func 55) #[] #[Value.pointer (some ⟨List.length (H4 ++ [AObj.cells (repCells [vI 0] (↑x32n : Int).toNat) 3 (repCells [vI 0] (↑x32n : Int).toNat).length OMode.row]), 0, some 1⟩), vP H3.length 0 1, vP H5.length 0 1]].length = 1) (h27 : setCells (H5 ++ [vo [Value.nilFunc] 82]) H.length H5.length 1 0 [Value.func (Fn.func 55) #[] #[Value.pointer (some ⟨List.length (H4 ++ [AObj.cells (repCells [vI 0] (↑x32n : Int).toNat) 3 (repCells [vI 0] (↑x32n : Int).toNat).length OMode.row]), 0, some 1⟩), vP H3.length 0 1, vP H5.length 0 1]] = some H6) (h28 : getCells H6 H5.length 1 0 1 = some [Value.func (Fn.func 55) #[] #[vP x36ap x36ao x36al, vP x36bp x36bo x36bl, vP x36cp x36co x36cl]]) (h29 : cI 55 [vI 0, vP x36ap x36ao x36al, vP x36bp x36bo x36bl, vP x36cp x36co x36cl] H.length H6 = some (vI x37, H7)) (h30 : Fit .i64 (x37 - 1)) : callInf cfg 30 [.agg #[.int .i64 x0a, .slice x0ba x0bn x0bc, .slice x0ca x0cn x0cc]] prot H = some (Value.tuple { toList := [Value.int .i64 (x37 - 1), Value.bool true, Value.int .i64 0] }, H) :=
 fn_of2 a30 [.e, .v (.agg #[vI x11a, vS x11ba x11bn x11bc, vS x11ca x11cn x11cc]), .v (vI x12), .e, .b false, .v (.agg #[vI x17a, vS x17ba x17bn x17bc, vS x17ca x17cn x17cc]), .v (.tuple #[.bool x18a, .agg #[.string x18ba, .string x18bb, .string x18bc]]), .e, .h H1, .e, .b false, .v (.agg #[vI x24a, vS x24ba x24bn x24bc, vS x24ca x24cn x24cc]), .b false, .r (vS x25a x25n x25c) H2, .b false, .v (vP x26p x26o x26l), .b false, .v (.bool x27), .b false, .e, .b false, .b false, .v (.agg #[vI x30a, vS x30ba x30bn x30bc, vS x30ca x30cn x30cc]), .r (vS x31a x31n x31c) H3, .e, .h H4, .v (vS x32a x32n x32c), .e, .e, .e, .h H5, .e, .h H6, .v (.func (.func 55) #[] #[vP x36ap x36ao x36al, vP x36bp x36bo x36bl, vP x36cp x36co x36cl]), .r (vI x37) H7, .e] (ai h1 (ai h2 (ai h3 (ai h4 (ai h5 (ai h6 (ai h7 (ai h8 (ai h9 (ai h10 (ai h9 (ai h11 (ai h9 (ai h12 (ai h9 (ai h13 (ai h9 (ai h9 (ai h14 (ai h15 (ai h16 (ai h17 (ai h18 (ai h19 (ai h20 (ai h21 (ai h22 (ai h23 (ai h24 (ai h25 (ai h26 (ai h27 (ai h28 (ai h29 (ai h30 (Eq.refl ((Value.tuple #[vI (x37 - 1), Value.bool true, vI 0], H) : Value × AHeap))))))))))))))))))))))))))))))))))))) (by kernel_rfl) rfl
theorem f30_F_2 (h1 : [vI x0a, vS x0ba x0bn x0bc, vS x0ca x0cn x0cc].all isCell = true) (h2 : getCells (H ++ [vo [vI x0a, vS x0ba x0bn x0bc, vS x0ca x0cn x0cc] 25]) H.length 3 0 3 = some [vI x11a, vS x11ba x11bn x11bc, vS x11ca x11cn x11cc]) (h3 : cI 36 [Value.agg #[vI x11a, vS x11ba x11bn x11bc, vS x11ca x11cn x11cc]] H.length (H ++ [vo [vI x0a, vS x0ba x0bn x0bc, vS x0ca x0cn x0cc] 25]) = some (vI x12, H ++ [vo [vI x0a, vS x0ba x0bn x0bc, vS x0ca x0cn x0cc] 25])) (h4 : (x12 != 0) = false) (h5 : getCells (H ++ [vo [vI x0a, vS x0ba x0bn x0bc, vS x0ca x0cn x0cc] 25]) H.length 3 0 3 = some [vI x17a, vS x17ba x17bn x17bc, vS x17ca x17cn x17cc]) (h6 : cI 37 [Value.agg #[vI x17a, vS x17ba x17bn x17bc, vS x17ca x17cn x17cc]] H.length (H ++ [vo [vI x0a, vS x0ba x0bn x0bc, vS x0ca x0cn x0cc] 25]) = some (Value.tuple #[Value.bool x18a, Value.agg #[Value.string x18ba, Value.string x18bb, Value.string x18bc]], H ++ [vo [vI x0a, vS x0ba x0bn x0bc, vS x0ca x0cn x0cc] 25])) (h7 : 3 = 3) (h8 : setCells (H ++ [vo [vI x0a, vS x0ba x0bn x0bc, vS x0ca x0cn x0cc] 25] ++ [vo [vE, vE, vE] 29]) H.length (List.length (H ++ [vo [vI x0a, vS x0ba x0bn x0bc, vS x0ca x0cn x0cc] 25])) 3 0 [Value.string x18ba, Value.string x18bb, Value.string x18bc] = some H1) (h9 : (!x18a) = false) (h10 : getCells H1 H.length 3 0 3 = some [vI x24a, vS x24ba x24bn x24bc, vS x24ca x24cn x24cc]) (h11 : cI 53 [Value.agg #[vI x24a, vS x24ba x24bn x24bc, vS x24ca x24cn x24cc]] H.length H1 = some (vS x25a x25n x25c, H2)) (h12 : aX 23 (vS x25a x25n x25c) (vI 0) = some (vP x26p x26o x26l)) (h13 : getCells H2 x26p x26l x26o 1 = some [Value.bool x27]) (h14 : (!x27) = true) : callInf cfg 30 [.agg #[.int .i64 x0a, .slice x0ba x0bn x0bc, .slice x0ca x0cn x0cc]] prot H = some (Value.tuple { toList := [Value.int .i64 0, Value.bool false, Value.int .i64 0] }, H) :=
 fn_of2 a30 [.e, .v (.agg #[vI x11a, vS x11ba x11bn x11bc, vS x11ca x11cn x11cc]), .v (vI x12), .e, .b false, .v (.agg #[vI x17a, vS x17ba x17bn x17bc, vS x17ca x17cn x17cc]), .v (.tuple #[.bool x18a, .agg #[.string x18ba, .string x18bb, .string x18bc]]), .e, .h H1, .e, .b false, .v (.agg #[vI x24a, vS x24ba x24bn x24bc, vS x24ca x24cn x24cc]), .b false, .r (vS x25a x25n x25c) H2, .b false, .v (vP x26p x26o x26l), .b false, .v (.bool x27), .b false, .e, .b false, .b true] (ai h1 (ai h2 (ai h3 (ai h4 (ai h5 (ai h6 (ai h7 (ai h8 (ai h9 (ai h10 (ai h9 (ai h11 (ai h9 (ai h12 (ai h9 (ai h13 (ai h9 (ai h9 (ai h14 (Eq.refl ((Value.tuple #[vI 0, Value.bool false, vI 0], H) : Value × AHeap))))))))))))))))))))) (by kernel_rfl) rfl
theorem f30_F_3 (h1 : [vI x0a, vS x0ba x0bn x0bc, vS x0ca x0cn x0cc].all isCell = true) (h2 : getCells (H ++ [vo [vI x0a, vS x0ba x0bn x0bc, vS x0ca x0cn x0cc] 25]) H.length 3 0 3 = some [vI x11a, vS x11ba x11bn x11bc, vS x11ca x11cn x11cc]) (h3 : cI 36 [Value.agg #[vI x11a, vS x11ba x11bn x11bc, vS x11ca x11cn x11cc]] H.length (H ++ [vo [vI x0a, vS x0ba x0bn x0bc, vS x0ca x0cn x0cc] 25]) = some (vI x12, H ++ [vo [vI x0a, vS x0ba x0bn x0bc, vS x0ca x0cn x0cc] 25])) (h4 : (x12 != 0) = false) (h5 : getCells (H ++ [vo [vI x0a, vS x0ba x0bn x0bc, vS x0ca x0cn x0cc] 25]) H.length 3 0 3 = some [vI x17a, vS x17ba x17bn x17bc, vS x17ca x17cn x17cc]) (h6 : cI 37 [Value.agg #[vI x17a, vS x17ba x17bn x17bc, vS x17ca x17cn x17cc]] H.length (H ++ [vo [vI x0a, vS x0ba x0bn x0bc, vS x0ca x0cn x0cc] 25]) = some (Value.tuple #[Value.bool x18a, Value.agg #[Value.string x18ba, Value.string x18bb, Value.string x18bc]], H ++ [vo [vI x0a, vS x0ba x0bn x0bc, vS x0ca x0cn x0cc] 25])) (h7 : 3 = 3) (h8 : setCells (H ++ [vo [vI x0a, vS x0ba x0bn x0bc, vS x0ca x0cn x0cc] 25] ++ [vo [vE, vE, vE] 29]) H.length (List.length (H ++ [vo [vI x0a, vS x0ba x0bn x0bc, vS x0ca x0cn x0cc] 25])) 3 0 [Value.string x18ba, Value.string x18bb, Value.string x18bc] = some H1) (h9 : (!x18a) = true) : callInf cfg 30 [.agg #[.int .i64 x0a, .slice x0ba x0bn x0bc, .slice x0ca x0cn x0cc]] prot H = some (Value.tuple { toList := [Value.int .i64 0, Value.bool false, Value.int .i64 0] }, H) :=
 fn_of2 a30 [.e, .v (.agg #[vI x11a, vS x11ba x11bn x11bc, vS x11ca x11cn x11cc]), .v (vI x12), .e, .b false, .v (.agg #[vI x17a, vS x17ba x17bn x17bc, vS x17ca x17cn x17cc]), .v (.tuple #[.bool x18a, .agg #[.string x18ba, .string x18bb, .string x18bc]]), .e, .h H1, .e, .b true, .b true, .b true, .b true, .b true, .b true, .b true] (ai h1 (ai h2 (ai h3 (ai h4 (ai h5 (ai h6 (ai h7 (ai h8 (ai h9 (ai h9 (ai h9 (ai h9 (ai h9 (ai h9 (ai (Eq.refl true) (Eq.refl ((Value.tuple #[vI 0, Value.bool false, vI 0], H) : Value × AHeap))))))))))))))))) (by kernel_rfl) rfl
end
end Go.Proofs.Ythjkodbinkiifaa.Am23
namespace Go.Proofs.Ythjkodbinkiifaa.Am23
open Go Go.Proofs.Ythjkodbinkiifaa.Am
open Am23g (addE Out Mine out_start gc_mine Gr nl Rch sc)
/-! Longest. -/
theorem mine_rows {B : Nat} {H : AHeap} {x : Value} {N : Nat} {T : Nat → List Nat} (h : Mine B H x N T) {od : Nat} (hB : H.length ≤ od) : RowsA H x N T od := by
 obtain ⟨cs, h1, h2⟩ := h.rd
 refine ⟨cs, h1, fun j hj => ?_⟩
 obtain ⟨r, a, b⟩ := h2 j hj
 refine ⟨r, a, b, fun id off L m c e e2 => ?_⟩
 have := b.low id off L m c e
 have := Option.some.inj e2
 omega
theorem inL_in {k : Nat} {xs : List Int} {bs : List Bool} (hG : Good k xs bs) (hf : (boundV k xs bs).1 = true) {c d : Nat} (h : d ∈ inL k xs (uB k xs bs) c) : d < bs.length ∧ d ≠ c := by
 have h' := inL_mem.1 h
 have hc := uB_lt hG h'.1
 refine ⟨uB_lt hG h'.2.1, fun e => ?_⟩
 subst e
 exact no_cycle hG hf (.one (by rw [sc_gU hc]; exact h))
theorem c30 {k : Int} {xs : List Int} {bs : List Bool} {vN vA : Value} (prot : Nat) (H : AHeap) (hA : IsA H xs bs vN vA) :
  callInf cfg 30 [av k vN vA] prot H = some (.tuple #[.int .i64 (longV k xs bs).1, .bool (longV k xs bs).2, .int .i64 (chkG k xs bs)], H) := by
 have hck := c36 (k := k) H.length (H ++ [bx k vN vA]) (hA.stay (Stay.app none H _))
 have hg : (H ++ [bx k vN vA])[H.length]? = some (bx k vN vA) := append_get.1
 have hA0 := hA
 obtain ⟨aN, cN, hNe⟩ := hA.n.len
 obtain ⟨aA, cA, hAe⟩ := hA.a.len
 subst hNe; subst hAe
 obtain ⟨_, _, _, g3⟩ := fld3 hg
 unfold longV
 by_cases h0 : chkG k xs bs = 0
 ·obtain ⟨k, rfl, hG⟩ := good_of h0
  rw [Int.toNat_natCast]
  rw [h0] at hck ⊢
  have hb1 := hG.n1
  have hb5 := hG.n5
  obtain ⟨HX, hHX⟩ : ∃ HX, HX = H ++ [bx (k : Int) (.slice aN xs.length cN) (.slice aA bs.length cA)] := ⟨_, rfl⟩
  have lX : HX.length = H.length + 1 := by rw [hHX]; simp
  have sX : Stay none H HX := by rw [hHX]; exact Stay.app none H _
  have hgX : HX[H.length]? = some (bx (k : Int) (.slice aN xs.length cN) (.slice aA bs.length cA)) := by rw [hHX]; exact hg
  have h37 := c37 hG H.length HX (hA.stay sX)
  obtain ⟨HP, hHP⟩ : ∃ HP, HP = HX ++ [vo [.string { data := { toList := [] } }, .string { data := { toList := [] } }, .string { data := { toList := [] } }] 29] := ⟨_, rfl⟩
  have lP : HP.length = H.length + 2 := by rw [hHP]; simp; omega
  have gP : HP[HX.length]? = some (.cells [.string { data := { toList := [] } }, .string { data := { toList := [] } }, .string { data := { toList := [] } }] 29 3 .var) := by rw [hHP]; exact append_get.1
  obtain ⟨H1, hH1⟩ : ∃ H1, H1 = HP.set HX.length (.cells [.string (boundV k xs bs).2.1, .string (boundV k xs bs).2.2.1, .string (boundV k xs bs).2.2.2] 29 3 .var) := ⟨_, rfl⟩
  have s1 : Stay (some HX.length) HP H1 := by rw [hH1]; exact set_stay
  have e1 : setCells HP H.length HX.length 3 0 [.string (boundV k xs bs).2.1, .string (boundV k xs bs).2.2.1, .string (boundV k xs bs).2.2.2] = some H1 := by rw [hH1]; exact arr_put gP rfl (by omega) rfl rfl
  have sP : Stay none HX HP := by rw [hHP]; exact Stay.app none HX _
  have sX1 : Stay none HX H1 := sP.over s1 (fun id e => by have := Option.some.inj e; omega)
  have l1 : H1.length = H.length + 2 := by rw [hH1, List.length_set, lP]
  have st1 := sX.trans sX1
  have hg1 : H1[H.length]? = some (bx (k : Int) (.slice aN xs.length cN) (.slice aA bs.length cA)) := by rw [sX1.2 _ (by omega) (by simp)]; exact hgX
  obtain ⟨_, _, _, g31⟩ := fld3 hg1
  by_cases hf : (boundV k xs bs).1 = true
  ·obtain ⟨pu, cu', H2, u1, u2, u3⟩ := c53 hG H.length H1 (hA.stay st1)
   obtain ⟨_, _, v1, v2⟩ := own_at T23 u2 (use_get hb1)
   have st2 := st1.trans u3
   have hg2 : H2[H.length]? = some (bx (k : Int) (.slice aN xs.length cN) (.slice aA bs.length cA)) := by rw [u3.2 _ (by omega) (by simp)]; exact hg1
   obtain ⟨_, _, _, g32⟩ := fld3 hg2
   by_cases hu : uB k xs bs 0 = true
   ·rw [if_pos ⟨rfl, hf, hu⟩]
    rw [hu] at v2
    obtain ⟨xg, H3, i1, i2, i3⟩ := c54 hG H.length H2 (hA.stay st2)
    have st3 := st2.trans i3
    have l3 := st3.1
    obtain ⟨ds, hds, _⟩ := i2.rd
    obtain ⟨ax, cx, hxe⟩ := hds.len
    subst hxe
    obtain ⟨HA, hHA⟩ : ∃ HA, HA = H3 ++ [vo [.slice none 0 0] 86] := ⟨_, rfl⟩
    have sA : Stay none H3 HA := by rw [hHA]; exact Stay.app none H3 _
    have lA : HA.length = H3.length + 1 := by rw [hHA]; simp
    have gA : HA[H3.length]? = some (.cells [.slice none 0 0] 86 1 .var) := by rw [hHA]; exact append_get.1
    obtain ⟨H4, hH4⟩ : ∃ H4, H4 = HA.set H3.length (.cells [.slice ax bs.length cx] 86 1 .var) := ⟨_, rfl⟩
    have s4 : Stay (some H3.length) HA H4 := by rw [hH4]; exact set_stay
    have l4 : H4.length = H3.length + 1 := by rw [hH4, List.length_set, lA]
    have e4 : setCells HA H.length H3.length 1 0 [.slice ax bs.length cx] = some H4 := by rw [hH4]; exact arr_put gA rfl l3 rfl rfl
    have g4 : H4[H3.length]? = some (.cells [.slice ax bs.length cx] 86 1 .var) := by rw [hH4, List.getElem?_set_self (by omega)]
    have sA4 : Stay none H3 H4 := sA.over s4 (fun id e => by have := Option.some.inj e; omega)
    obtain ⟨HB, hHB⟩ : ∃ HB, HB = H4 ++ [AObj.cells (repCells [.int .i64 0] bs.length) 3 (repCells [.int .i64 0] bs.length).length .row] := ⟨_, rfl⟩
    have sB : Stay none H4 HB := by rw [hHB]; exact Stay.app none H4 _
    have lB : HB.length = H3.length + 2 := by rw [hHB, List.length_append, List.length_singleton]; omega
    obtain ⟨HC, hHC⟩ : ∃ HC, HC = HB ++ [vo [.slice none 0 0] 22] := ⟨_, rfl⟩
    have sC : Stay none HB HC := by rw [hHC]; exact Stay.app none HB _
    have lC : HC.length = H3.length + 3 := by rw [hHC, List.length_append, List.length_singleton]; omega
    have gC : HC[HB.length]? = some (.cells [.slice none 0 0] 22 1 .var) := by rw [hHC]; exact append_get.1
    obtain ⟨xd, hxd⟩ : ∃ xd : Value, xd = .slice (some ⟨H4.length, 0, some (((bs.length : Nat) : Int).toNat * 1)⟩) ((bs.length : Nat) : Int).toNat ((bs.length : Nat) : Int).toNat := ⟨_, rfl⟩
    obtain ⟨H5, hH5⟩ : ∃ H5, H5 = HC.set HB.length (.cells [xd] 22 1 .var) := ⟨_, rfl⟩
    have s5 : Stay (some HB.length) HC H5 := by rw [hH5]; exact set_stay
    have l5 : H5.length = H3.length + 3 := by rw [hH5, List.length_set, lC]
    have e5 : setCells HC H.length HB.length 1 0 [xd] = some H5 := by rw [hH5]; exact arr_put gC rfl (by omega) rfl (by rw [hxd]; rfl)
    obtain ⟨HD, hHD⟩ : ∃ HD, HD = H5 ++ [vo [.nilFunc] 82] := ⟨_, rfl⟩
    have sD : Stay none H5 HD := by rw [hHD]; exact Stay.app none H5 _
    have lD : HD.length = H3.length + 4 := by rw [hHD, List.length_append, List.length_singleton]; omega
    have gD : HD[H5.length]? = some (.cells [.nilFunc] 82 1 .var) := by rw [hHD]; exact append_get.1
    obtain ⟨H6, hH6⟩ : ∃ H6, H6 = HD.set H5.length (.cells [fLo HB.length H3.length H5.length] 82 1 .var) := ⟨_, rfl⟩
    have s6 : Stay (some H5.length) HD H6 := by rw [hH6]; exact set_stay
    have e6 : setCells HD H.length H5.length 1 0 [fLo HB.length H3.length H5.length] = some H6 := by rw [hH6]; exact arr_put gD rfl (by omega) rfl rfl
    have k2 : H6[H3.length]? = some (.cells [.slice ax bs.length cx] 86 1 .var) := by
     rw [s6.2 _ (by omega) (fun e => by have := Option.some.inj e; omega), sD.2 _ (by omega) (by simp), s5.2 _ (by omega) (fun e => by have := Option.some.inj e; omega), sC.2 _ (by omega) (by simp), sB.2 _ (by omega) (by simp)]; exact g4
    have k1 : H6[HB.length]? = some (.cells [xd] 22 1 .var) := by
     rw [s6.2 _ (by omega) (fun e => by have := Option.some.inj e; omega), sD.2 _ (by omega) (by simp), hH5, List.getElem?_set_self (by omega)]
    have k3 : H6[H5.length]? = some (.cells [fLo HB.length H3.length H5.length] 82 1 .var) := by rw [hH6, List.getElem?_set_self (by omega)]
    have m : Own HB 3 1 xd (some H4.length) bs.length (il (faL (fun _ => 0) bs.length)) := by
     have hm := own_make (e := 3) (fun n => .int .i64 ((n : Nat) : Int)) hb1 H4 (.int .i64 0) rfl
     rw [hxd, hHB, Int.toNat_natCast]
     have : il (faL (fun _ => 0) bs.length) = (List.replicate bs.length 0).map (fun n => Value.int .i64 ((n : Nat) : Int)) := by
      unfold il faL nl
      rw [List.map_const', List.length_range, List.map_replicate, List.map_replicate, List.map_replicate]
     rw [this]
     exact hm
    have m6 : Own H6 3 1 xd (some H4.length) bs.length (il (faL (fun _ => 0) bs.length)) :=
     (((m.stay sC (fun _ _ h => by cases h)).stay s5 (fun id e1 e2 => by cases e1; have := Option.some.inj e2; omega)).stay sD (fun _ _ h => by cases h)).stay s6 (fun id e1 e2 => by cases e1; have := Option.some.inj e2; omega)
    have sAll : Stay none H3 H6 := (((((sA4.trans sB).trans sC).over s5 (fun id e => by have := Option.some.inj e; omega)).trans sD).over s6 (fun id e => by have := Option.some.inj e; omega))
    have r6 : RowsA H6 (.slice ax bs.length cx) bs.length (inL k xs (uB k xs bs)) H4.length := (mine_rows i2 (by omega)).stay sAll
    have hw : WM (fLo HB.length H3.length H5.length) H.length H6 bs.length (inL k xs (uB k xs bs)) (fun c => hU k xs bs c + 1) xd (.slice ax bs.length cx) H4.length HB.length H3.length H5.length (fun _ => 0) :=
     ⟨k1, k2, k3, m6, r6, by omega, by omega, by omega, by omega, fun _ _ => .inl rfl⟩
    obtain ⟨D', H7, c1, c2, c3⟩ := c55 hb5 (hU_edges hG hf) (fun c d h => inL_in hG hf h) (fun c => by have := inL_len k xs (uB k xs bs) c; have := hG.k8; omega) (prot := H.length) hw.lo (hU k xs bs 0 + 1) 0 H6 _ hb1 (by omega) hw
    have hlt := (hU_edges hG hf).lt 0 hb1
    have hz : (((hU k xs bs 0 + 1 : Nat) : Int) - 1) = ((hU k xs bs 0 : Nat) : Int) := by omega
    have q1 := one_get g4
    have q2 := one_get k3
    subst hHD; subst hHC; subst hHB; subst hHA; subst hHP; subst hHX
    have := f30_F_1 (prot := prot) all3 g3 hck rfl g3 h37 rfl e1 (by simp [hf]) g31 u1 v1 v2 rfl g32 i1 rfl e4 q1 (by omega) rfl (by omega) (by omega) rfl (by rw [hxd] at e5; exact e5) rfl e6 q2 c1 (fit64 (by omega) (by omega))
    rw [hz] at this
    exact this
   ·have hu' : uB k xs bs 0 = false := by simpa using hu
    rw [if_neg (fun h => hu h.2.2)]
    rw [hu'] at v2
    subst hHP; subst hHX
    exact f30_F_2 all3 g3 hck rfl g3 h37 rfl e1 (by simp [hf]) g31 u1 v1 v2 rfl
  ·rw [if_neg (fun h => hf h.2.1)]
   subst hHP; subst hHX
   exact f30_F_3 all3 g3 hck rfl g3 h37 rfl e1 (by simpa using hf)
 ·rw [if_neg (fun h => h0 h.1)]
  exact f30_F_0 all3 g3 hck (by simpa using h0)
end Go.Proofs.Ythjkodbinkiifaa.Am23
set_option linter.unusedVariables false
open Go Go.Proofs.Ythjkodbinkiifaa.Am
namespace Go.Proofs.Ythjkodbinkiifaa.Am23
section
variable {x0a x20a x21 x25a x29b x29c z8 z8_2 z2_2 x8 x40 x41 x48 x50 z40 z41 x13 x57 x58 x61 x65 x69 x75 x77 x84 x89 x95 x101 x102 x108 x112 x2 x118 x119 x125 : Int}
variable {x0ba x0ca x20ba x20ca x25ba x25ca x26a x29aa x34a x36a z11a x6a x7a x11a x56a z6a z7a x71a x80a x85a x91a x97a x105a : Option Addr}
variable {x0bn x0bc x0cn x0cc prot x20bn x20bc x20cn x20cc x25bn x25bc x25cn x25cc x26n x26c x29an x29ac x34n x34c x36n x36c z10p z10o z10l z11n z11c z12p z12o z12l z10p_2 z10o_2 z10l_2 z12p_2 z12o_2 z12l_2 x6n x6c x7n x7c x10p x10o x10l x11n x11c x12p x12o x12l x47p x47o x47l x49p x49o x49l x52p x52o x52l x55p x55o x55l x56n x56c z6n z6c z7n z7c x60p x60o x60l x64p x64o x64l x68p x68o x68l x71n x71c x74p x74o x74l x76p x76o x76l x79p x79o x79l x80n x80c x83p x83o x83l x85n x85c x88p x88o x88l x90p x90o x90l x91n x91c x94p x94o x94l x97n x97c x98p x98o x98l x105n x105c x107p x107o x107l x111p x111o x111l x18p x18o x18l x123ap x123ao x123al x123bp x123bo x123bl x123cp x123co x123cl x123dp x123do x123dl : Nat}
variable {H H1 H2 H3 H4 H5 H6 H7 H8 H9 H10 H11 H0 : AHeap}
variable {z2 z3 z4 z10 z12 : Value}
theorem f31_F_0 (h1 : [vI x0a, vS x0ba x0bn x0bc, vS x0ca x0cn x0cc].all isCell = true) (h2 : getCells (H ++ [vo [vI x0a, vS x0ba x0bn x0bc, vS x0ca x0cn x0cc] 25]) H.length 3 0 3 = some [vI x20a, vS x20ba x20bn x20bc, vS x20ca x20cn x20cc]) (h3 : cI 36 [Value.agg #[vI x20a, vS x20ba x20bn x20bc, vS x20ca x20cn x20cc]] H.length (H ++ [vo [vI x0a, vS x0ba x0bn x0bc, vS x0ca x0cn x0cc] 25]) = some (vI x21, H ++ [vo [vI x0a, vS x0ba x0bn x0bc, vS x0ca x0cn x0cc] 25])) (h4 : (x21 != 0) = true) : callInf cfg 31 [.agg #[.int .i64 x0a, .slice x0ba x0bn x0bc, .slice x0ca x0cn x0cc]] prot H = some (Value.tuple { toList := [Value.int .i64 0, Value.bool false, Value.int .i64 x21] }, H) :=
 fn_of2 a31 [.e, .v (.agg #[vI x20a, vS x20ba x20bn x20bc, vS x20ca x20cn x20cc]), .v (vI x21), .e, .b true] (ai h1 (ai h2 (ai h3 (ai h4 (Eq.refl ((Value.tuple #[vI 0, Value.bool false, vI x21], H) : Value × AHeap)))))) (by kernel_rfl) rfl
theorem f31_F_1 (h1 : [vI x0a, vS x0ba x0bn x0bc, vS x0ca x0cn x0cc].all isCell = true) (h2 : getCells (H ++ [vo [vI x0a, vS x0ba x0bn x0bc, vS x0ca x0cn x0cc] 25]) H.length 3 0 3 = some [vI x20a, vS x20ba x20bn x20bc, vS x20ca x20cn x20cc]) (h3 : cI 36 [Value.agg #[vI x20a, vS x20ba x20bn x20bc, vS x20ca x20cn x20cc]] H.length (H ++ [vo [vI x0a, vS x0ba x0bn x0bc, vS x0ca x0cn x0cc] 25]) = some (vI x21, H ++ [vo [vI x0a, vS x0ba x0bn x0bc, vS x0ca x0cn x0cc] 25])) (h4 : (x21 != 0) = false) (h5 : getCells (H ++ [vo [vI x0a, vS x0ba x0bn x0bc, vS x0ca x0cn x0cc] 25]) H.length 3 0 3 = some [vI x25a, vS x25ba x25bn x25bc, vS x25ca x25cn x25cc]) (h6 : cI 54 [Value.agg #[vI x25a, vS x25ba x25bn x25bc, vS x25ca x25cn x25cc]] H.length (H ++ [vo [vI x0a, vS x0ba x0bn x0bc, vS x0ca x0cn x0cc] 25]) = some (vS x26a x26n x26c, H1)) (h7 : cI 56 [vS x26a x26n x26c] H.length H1 = some (Value.tuple #[vS x29aa x29an x29ac, vI x29b, vI x29c], H2)) (h8 : placeA (H2.length + 0) (H2 ++ [AObj.hole, AObj.hole, AObj.hole]) (amakeSlice cfg.P 22 (vI x29b) (vI x29b) (H2 ++ [AObj.hole, AObj.hole, AObj.hole])) = some (vS x34a x34n x34c, H3)) (h9 : H3[H2.length + 2]? = some AObj.hole) (h10 : 1 = 1) (h11 : setCells (List.set H3 (H2.length + 2) (vo [vS none 0 0] 22)) H.length (H2.length + 2) 1 0 [vS x34a x34n x34c] = some H4) (h12 : placeA (H2.length + 1) H4 (amakeSlice cfg.P 22 (vI x29b) (vI x29b) H4) = some (vS x36a x36n x36c, H5)) (h13 : 0 ≤ x29b) (h14 : x29b = x29b) (h15 : x29b ≤ 9223372036854775807) (h16 : (↑24 : Int) * x29b ≤ 2 ^ 48) (h17 : 1 = 1) (h18 : setCells (H5 ++ [AObj.cells (repCells [vS none 0 0] x29b.toNat) 22 (repCells [vS none 0 0] x29b.toNat).length OMode.row] ++ [vo [vS none 0 0] 86]) H.length (List.length (H5 ++ [AObj.cells (repCells [vS none 0 0] x29b.toNat) 22 (repCells [vS none 0 0] x29b.toNat).length OMode.row])) 1 0 [vS (some ⟨H5.length, 0, some (x29b.toNat * 1)⟩) x29b.toNat x29b.toNat] = some H6) (h19 : lI a31 0 prot H ([vS x26a x26n x26c, vS x29aa x29an x29ac, vI x29b, Value.pointer (some ⟨H2.length + 2, 0, some 1⟩), vS x36a x36n x36c, Value.pointer (some ⟨List.length (H5 ++ [AObj.cells (repCells [vS none 0 0] x29b.toNat) 22 (repCells [vS none 0 0] x29b.toNat).length OMode.row]), 0, some 1⟩), vI (↑x26n : Int), vI 0], H6) = some (Ex.exit 0, [vI z8, vP z10p z10o z10l, vS z11a z11n z11c, vP z12p z12o z12l], H7)) (h20 : lI a31 2 prot H ([vI z8, vP z10p z10o z10l, vS z11a z11n z11c, vP z12p z12o z12l, vI z8, vI 0], H7) = some (Ex.exit 4, [z2, z3, z4, vI z8_2, vP z10p_2 z10o_2 z10l_2, vP z12p_2 z12o_2 z12l_2], H8)) (h21 : 0 ≤ z8_2) (h22 : z8_2 = z8_2) (h23 : z8_2 ≤ 9223372036854775807) (h24 : (↑8 : Int) * z8_2 ≤ 2 ^ 48) (h25 : 1 = 1) (h26 : setCells (H8 ++ [AObj.cells (repCells [vI 0] z8_2.toNat) 3 (repCells [vI 0] z8_2.toNat).length OMode.row] ++ [vo [vS none 0 0] 22]) H.length (List.length (H8 ++ [AObj.cells (repCells [vI 0] z8_2.toNat) 3 (repCells [vI 0] z8_2.toNat).length OMode.row])) 1 0 [vS (some ⟨H8.length, 0, some (z8_2.toNat * 1)⟩) z8_2.toNat z8_2.toNat] = some H9) (h27 : [Value.func (Fn.func 57) #[] #[Value.pointer (some ⟨List.length (H8 ++ [AObj.cells (repCells [vI 0] z8_2.toNat) 3 (repCells [vI 0] z8_2.toNat).length OMode.row]), 0, some 1⟩), vP z12p_2 z12o_2 z12l_2, vP H9.length 0 1, vP z10p_2 z10o_2 z10l_2]].length = 1) (h28 : setCells (H9 ++ [vo [Value.nilFunc] 82]) H.length H9.length 1 0 [Value.func (Fn.func 57) #[] #[Value.pointer (some ⟨List.length (H8 ++ [AObj.cells (repCells [vI 0] z8_2.toNat) 3 (repCells [vI 0] z8_2.toNat).length OMode.row]), 0, some 1⟩), vP z12p_2 z12o_2 z12l_2, vP H9.length 0 1, vP z10p_2 z10o_2 z10l_2]] = some H10) (h29 : lI a31 3 prot H ([vI (-1), vP H9.length 0 1, vI z8_2, vI 0], H10) = some (Ex.exit 6, [vI z2_2], H11)) : callInf cfg 31 [.agg #[.int .i64 x0a, .slice x0ba x0bn x0bc, .slice x0ca x0cn x0cc]] prot H = some (Value.tuple { toList := [Value.int .i64 z2_2, Value.bool true, Value.int .i64 0] }, H) :=
 fn_of2 a31 [.e, .v (.agg #[vI x20a, vS x20ba x20bn x20bc, vS x20ca x20cn x20cc]), .v (vI x21), .e, .b false, .v (.agg #[vI x25a, vS x25ba x25bn x25bc, vS x25ca x25cn x25cc]), .r (vS x26a x26n x26c) H1, .r (.tuple #[vS x29aa x29an x29ac, vI x29b, vI x29c]) H2, .r (vS x34a x34n x34c) H3, .e, .h H4, .r (vS x36a x36n x36c) H5, .e, .e, .h H6, .e, .lo (.exit 0, [vI z8, vP z10p z10o z10l, vS z11a z11n z11c, vP z12p z12o z12l], H7), .lo (.exit 4, [z2, z3, z4, vI z8_2, vP z10p_2 z10o_2 z10l_2, vP z12p_2 z12o_2 z12l_2], H8), .e, .e, .h H9, .e, .h H10, .lo (.exit 6, [vI z2_2], H11)] (ai h1 (ai h2 (ai h3 (ai h4 (ai h5 (ai h6 (ai h7 (ai h8 (ai h9 (ai h10 (ai h11 (ai h12 (ai h13 (ai h14 (ai h15 (ai h16 (ai h17 (ai h18 (ai h19 (ai h20 (ai h21 (ai h22 (ai h23 (ai h24 (ai h25 (ai h26 (ai h27 (ai h28 (ai h29 (Eq.refl ((Value.tuple #[vI z2_2, Value.bool true, vI 0], H) : Value × AHeap))))))))))))))))))))))))))))))) (by kernel_rfl) rfl
theorem f31_F_2 {z2 : Int} {z3 : Bool} {z4 : Int} {z8_2 : Value} (h1 : [vI x0a, vS x0ba x0bn x0bc, vS x0ca x0cn x0cc].all isCell = true) (h2 : getCells (H ++ [vo [vI x0a, vS x0ba x0bn x0bc, vS x0ca x0cn x0cc] 25]) H.length 3 0 3 = some [vI x20a, vS x20ba x20bn x20bc, vS x20ca x20cn x20cc]) (h3 : cI 36 [Value.agg #[vI x20a, vS x20ba x20bn x20bc, vS x20ca x20cn x20cc]] H.length (H ++ [vo [vI x0a, vS x0ba x0bn x0bc, vS x0ca x0cn x0cc] 25]) = some (vI x21, H ++ [vo [vI x0a, vS x0ba x0bn x0bc, vS x0ca x0cn x0cc] 25])) (h4 : (x21 != 0) = false) (h5 : getCells (H ++ [vo [vI x0a, vS x0ba x0bn x0bc, vS x0ca x0cn x0cc] 25]) H.length 3 0 3 = some [vI x25a, vS x25ba x25bn x25bc, vS x25ca x25cn x25cc]) (h6 : cI 54 [Value.agg #[vI x25a, vS x25ba x25bn x25bc, vS x25ca x25cn x25cc]] H.length (H ++ [vo [vI x0a, vS x0ba x0bn x0bc, vS x0ca x0cn x0cc] 25]) = some (vS x26a x26n x26c, H1)) (h7 : cI 56 [vS x26a x26n x26c] H.length H1 = some (Value.tuple #[vS x29aa x29an x29ac, vI x29b, vI x29c], H2)) (h8 : placeA (H2.length + 0) (H2 ++ [AObj.hole, AObj.hole, AObj.hole]) (amakeSlice cfg.P 22 (vI x29b) (vI x29b) (H2 ++ [AObj.hole, AObj.hole, AObj.hole])) = some (vS x34a x34n x34c, H3)) (h9 : H3[H2.length + 2]? = some AObj.hole) (h10 : 1 = 1) (h11 : setCells (List.set H3 (H2.length + 2) (vo [vS none 0 0] 22)) H.length (H2.length + 2) 1 0 [vS x34a x34n x34c] = some H4) (h12 : placeA (H2.length + 1) H4 (amakeSlice cfg.P 22 (vI x29b) (vI x29b) H4) = some (vS x36a x36n x36c, H5)) (h13 : 0 ≤ x29b) (h14 : x29b = x29b) (h15 : x29b ≤ 9223372036854775807) (h16 : (↑24 : Int) * x29b ≤ 2 ^ 48) (h17 : 1 = 1) (h18 : setCells (H5 ++ [AObj.cells (repCells [vS none 0 0] x29b.toNat) 22 (repCells [vS none 0 0] x29b.toNat).length OMode.row] ++ [vo [vS none 0 0] 86]) H.length (List.length (H5 ++ [AObj.cells (repCells [vS none 0 0] x29b.toNat) 22 (repCells [vS none 0 0] x29b.toNat).length OMode.row])) 1 0 [vS (some ⟨H5.length, 0, some (x29b.toNat * 1)⟩) x29b.toNat x29b.toNat] = some H6) (h19 : lI a31 0 prot H ([vS x26a x26n x26c, vS x29aa x29an x29ac, vI x29b, Value.pointer (some ⟨H2.length + 2, 0, some 1⟩), vS x36a x36n x36c, Value.pointer (some ⟨List.length (H5 ++ [AObj.cells (repCells [vS none 0 0] x29b.toNat) 22 (repCells [vS none 0 0] x29b.toNat).length OMode.row]), 0, some 1⟩), vI (↑x26n : Int), vI 0], H6) = some (Ex.exit 0, [vI z8, vP z10p z10o z10l, vS z11a z11n z11c, vP z12p z12o z12l], H7)) (h20 : lI a31 2 prot H ([vI z8, vP z10p z10o z10l, vS z11a z11n z11c, vP z12p z12o z12l, vI z8, vI 0], H7) = some (Ex.ret, [vI z2, Value.bool z3, vI z4, z8_2, z10, z12], H8)) : callInf cfg 31 [.agg #[.int .i64 x0a, .slice x0ba x0bn x0bc, .slice x0ca x0cn x0cc]] prot H = some (Value.tuple { toList := [Value.int .i64 z2, Value.bool z3, Value.int .i64 z4] }, H) :=
 fn_of2 a31 [.e, .v (.agg #[vI x20a, vS x20ba x20bn x20bc, vS x20ca x20cn x20cc]), .v (vI x21), .e, .b false, .v (.agg #[vI x25a, vS x25ba x25bn x25bc, vS x25ca x25cn x25cc]), .r (vS x26a x26n x26c) H1, .r (.tuple #[vS x29aa x29an x29ac, vI x29b, vI x29c]) H2, .r (vS x34a x34n x34c) H3, .e, .h H4, .r (vS x36a x36n x36c) H5, .e, .e, .h H6, .e, .lo (.exit 0, [vI z8, vP z10p z10o z10l, vS z11a z11n z11c, vP z12p z12o z12l], H7), .lo (.ret, [vI z2, .bool z3, vI z4, z8_2, z10, z12], H8)] (ai h1 (ai h2 (ai h3 (ai h4 (ai h5 (ai h6 (ai h7 (ai h8 (ai h9 (ai h10 (ai h11 (ai h12 (ai h13 (ai h14 (ai h15 (ai h16 (ai h17 (ai h18 (ai h19 (ai h20 (Eq.refl ((Value.tuple #[vI z2, Value.bool z3, vI z4], H) : Value × AHeap)))))))))))))))))))))) (by kernel_rfl) rfl
theorem f31_L0_0 (h1 : x41 < x40) (h2 : aX 22 (vS x7a x7n x7c) (vI x41) = some (vP x47p x47o x47l)) (h3 : getCells H x47p x47l x47o 1 = some [vI x48]) (h4 : aX 22 (vS x11a x11n x11c) (vI x48) = some (vP x49p x49o x49l)) (h5 : getCells H x49p x49l x49o 1 = some [vI x50]) (h6 : Fit .i64 (x50 + 1)) (h7 : aX 22 (vS x11a x11n x11c) (vI x48) = some (vP x52p x52o x52l)) (h8 : 1 = 1) (h9 : setCells H H0.length x52p x52l x52o [vI (x50 + 1)] = some H2) (h10 : aX 86 (vS x6a x6n x6c) (vI x41) = some (vP x55p x55o x55l)) (h11 : getCells H2 x55p x55l x55o 1 = some [vS x56a x56n x56c]) (h12 : lI a31 1 prot H0 ([vS x6a x6n x6c, vS x7a x7n x7c, vI x8, vP x10p x10o x10l, vS x11a x11n x11c, vP x12p x12o x12l, vI x41, vI x40, vI x41, vS x56a x56n x56c, vI (↑x56n : Int), vI 0], H2) = some (Ex.exit 2, [vS z6a z6n z6c, vS z7a z7n z7c, vI z8, vP z10p z10o z10l, vS z11a z11n z11c, vP z12p z12o z12l, vI z40, vI z41], H3)) (h13 : Fit .i64 (z41 + 1)) : lpOf cfg a31 0 prot H0 ([.slice x6a x6n x6c, .slice x7a x7n x7c, .int .i64 x8, .pointer (some ⟨x10p, x10o, some x10l⟩), .slice x11a x11n x11c, .pointer (some ⟨x12p, x12o, some x12l⟩), .int .i64 x40, .int .i64 x41], H) = some (Sum.inl ([Value.slice z6a z6n z6c, Value.slice z7a z7n z7c, Value.int .i64 z8, Value.pointer (some ⟨z10p, z10o, some z10l⟩), Value.slice z11a z11n z11c, Value.pointer (some ⟨z12p, z12o, some z12l⟩), Value.int .i64 z40, Value.int .i64 (z41 + 1)], H3)) :=
 lp_of2 [.e, .b true, .v (vP x47p x47o x47l), .v (vI x48), .v (vP x49p x49o x49l), .v (vI x50), .e, .v (vP x52p x52o x52l), .h H2, .v (vP x55p x55o x55l), .v (vS x56a x56n x56c), .e, .lo (.exit 2, [vS z6a z6n z6c, vS z7a z7n z7c, vI z8, vP z10p z10o z10l, vS z11a z11n z11c, vP z12p z12o z12l, vI z40, vI z41], H3), .e] (ai (decide_eq_true h1) (ai h2 (ai h3 (ai h4 (ai h5 (ai h6 (ai h7 (ai h8 (ai h9 (ai h10 (ai h11 (ai h12 (ai h13 (Eq.refl (Sum.inl ([vS z6a z6n z6c, vS z7a z7n z7c, vI z8, vP z10p z10o z10l, vS z11a z11n z11c, vP z12p z12o z12l, vI z40, vI (z41 + 1)], H3) : LS ⊕ LO))))))))))))))) (by kernel_rfl)
theorem f31_L0_1 (h1 : ¬(x41 < x40)) : lpOf cfg a31 0 prot H0 ([.slice x6a x6n x6c, .slice x7a x7n x7c, .int .i64 x8, .pointer (some ⟨x10p, x10o, some x10l⟩), .slice x11a x11n x11c, .pointer (some ⟨x12p, x12o, some x12l⟩), .int .i64 x40, .int .i64 x41], H) = some (Sum.inr (Ex.exit 0, [Value.int .i64 x8, Value.pointer (some ⟨x10p, x10o, some x10l⟩), Value.slice x11a x11n x11c, Value.pointer (some ⟨x12p, x12o, some x12l⟩)], H)) :=
 lp_of2 [.e, .b false] (ai (decide_eq_false h1) (Eq.refl (Sum.inr (Ex.exit 0, [vI x8, vP x10p x10o x10l, vS x11a x11n x11c, vP x12p x12o x12l], H) : LS ⊕ LO))) (by kernel_rfl)
theorem f31_L1_0 (h1 : x58 < x57) (h2 : aX 22 (vS x56a x56n x56c) (vI x58) = some (vP x60p x60o x60l)) (h3 : getCells H x60p x60l x60o 1 = some [vI x61]) (h4 : aX 22 (vS x7a x7n x7c) (vI x13) = some (vP x64p x64o x64l)) (h5 : getCells H x64p x64l x64o 1 = some [vI x65]) (h6 : aX 22 (vS x7a x7n x7c) (vI x61) = some (vP x68p x68o x68l)) (h7 : getCells H x68p x68l x68o 1 = some [vI x69]) (h8 : (x65 == x69) = true) (h9 : getCells H x10p x10l x10o 1 = some [vS x71a x71n x71c]) (h10 : aX 22 (vS x7a x7n x7c) (vI x13) = some (vP x74p x74o x74l)) (h11 : getCells H x74p x74l x74o 1 = some [vI x75]) (h12 : aX 22 (vS x71a x71n x71c) (vI x75) = some (vP x76p x76o x76l)) (h13 : getCells H x76p x76l x76o 1 = some [vI x77]) (h14 : Fit .i64 (x77 + 1)) (h15 : aX 22 (vS x71a x71n x71c) (vI x75) = some (vP x79p x79o x79l)) (h16 : 1 = 1) (h17 : setCells H H0.length x79p x79l x79o [vI (x77 + 1)] = some H2) (h18 : Fit .i64 (x58 + 1)) : lpOf cfg a31 1 prot H0 ([.slice x6a x6n x6c, .slice x7a x7n x7c, .int .i64 x8, .pointer (some ⟨x10p, x10o, some x10l⟩), .slice x11a x11n x11c, .pointer (some ⟨x12p, x12o, some x12l⟩), .int .i64 x13, .int .i64 x40, .int .i64 x41, .slice x56a x56n x56c, .int .i64 x57, .int .i64 x58], H) = some (Sum.inl ([Value.slice x6a x6n x6c, Value.slice x7a x7n x7c, Value.int .i64 x8, Value.pointer (some ⟨x10p, x10o, some x10l⟩), Value.slice x11a x11n x11c, Value.pointer (some ⟨x12p, x12o, some x12l⟩), Value.int .i64 x13, Value.int .i64 x40, Value.int .i64 x41, Value.slice x56a x56n x56c, Value.int .i64 x57, Value.int .i64 (x58 + 1)], H2)) :=
 lp_of2 [.e, .b true, .v (vP x60p x60o x60l), .v (vI x61), .v (vP x64p x64o x64l), .v (vI x65), .v (vP x68p x68o x68l), .v (vI x69), .e, .b true, .v (vS x71a x71n x71c), .v (vP x74p x74o x74l), .v (vI x75), .v (vP x76p x76o x76l), .v (vI x77), .e, .v (vP x79p x79o x79l), .h H2, .e] (ai (decide_eq_true h1) (ai h2 (ai h3 (ai h4 (ai h5 (ai h6 (ai h7 (ai h8 (ai h9 (ai h10 (ai h11 (ai h12 (ai h13 (ai h14 (ai h15 (ai h16 (ai h17 (ai h18 (Eq.refl (Sum.inl ([vS x6a x6n x6c, vS x7a x7n x7c, vI x8, vP x10p x10o x10l, vS x11a x11n x11c, vP x12p x12o x12l, vI x13, vI x40, vI x41, vS x56a x56n x56c, vI x57, vI (x58 + 1)], H2) : LS ⊕ LO)))))))))))))))))))) (by kernel_rfl)
theorem f31_L1_1 (h1 : x58 < x57) (h2 : aX 22 (vS x56a x56n x56c) (vI x58) = some (vP x60p x60o x60l)) (h3 : getCells H x60p x60l x60o 1 = some [vI x61]) (h4 : aX 22 (vS x7a x7n x7c) (vI x13) = some (vP x64p x64o x64l)) (h5 : getCells H x64p x64l x64o 1 = some [vI x65]) (h6 : aX 22 (vS x7a x7n x7c) (vI x61) = some (vP x68p x68o x68l)) (h7 : getCells H x68p x68l x68o 1 = some [vI x69]) (h8 : (x65 == x69) = false) (h9 : getCells H x12p x12l x12o 1 = some [vS x80a x80n x80c]) (h10 : aX 22 (vS x7a x7n x7c) (vI x13) = some (vP x83p x83o x83l)) (h11 : getCells H x83p x83l x83o 1 = some [vI x84]) (h12 : getCells H x12p x12l x12o 1 = some [vS x85a x85n x85c]) (h13 : aX 22 (vS x7a x7n x7c) (vI x13) = some (vP x88p x88o x88l)) (h14 : getCells H x88p x88l x88o 1 = some [vI x89]) (h15 : aX 86 (vS x85a x85n x85c) (vI x89) = some (vP x90p x90o x90l)) (h16 : getCells H x90p x90l x90o 1 = some [vS x91a x91n x91c]) (h17 : aX 22 (vS x7a x7n x7c) (vI x61) = some (vP x94p x94o x94l)) (h18 : getCells H x94p x94l x94o 1 = some [vI x95]) (h19 : aappend cfg.P H0.length false 22 22 (vS x91a x91n x91c) (vS (some ⟨H.length, 0, some (1 * 1)⟩) 1 1) (H ++ [wo [vI x95] 3]) = some (vS x97a x97n x97c, H2)) (h20 : aX 86 (vS x80a x80n x80c) (vI x84) = some (vP x98p x98o x98l)) (h21 : 1 = 1) (h22 : setCells H2 H0.length x98p x98l x98o [vS x97a x97n x97c] = some H3) (h23 : Fit .i64 (x58 + 1)) : lpOf cfg a31 1 prot H0 ([.slice x6a x6n x6c, .slice x7a x7n x7c, .int .i64 x8, .pointer (some ⟨x10p, x10o, some x10l⟩), .slice x11a x11n x11c, .pointer (some ⟨x12p, x12o, some x12l⟩), .int .i64 x13, .int .i64 x40, .int .i64 x41, .slice x56a x56n x56c, .int .i64 x57, .int .i64 x58], H) = some (Sum.inl ([Value.slice x6a x6n x6c, Value.slice x7a x7n x7c, Value.int .i64 x8, Value.pointer (some ⟨x10p, x10o, some x10l⟩), Value.slice x11a x11n x11c, Value.pointer (some ⟨x12p, x12o, some x12l⟩), Value.int .i64 x13, Value.int .i64 x40, Value.int .i64 x41, Value.slice x56a x56n x56c, Value.int .i64 x57, Value.int .i64 (x58 + 1)], H3)) :=
 lp_of2 [.e, .b true, .v (vP x60p x60o x60l), .v (vI x61), .v (vP x64p x64o x64l), .v (vI x65), .v (vP x68p x68o x68l), .v (vI x69), .e, .b false, .v (vS x80a x80n x80c), .v (vP x83p x83o x83l), .v (vI x84), .v (vS x85a x85n x85c), .v (vP x88p x88o x88l), .v (vI x89), .v (vP x90p x90o x90l), .v (vS x91a x91n x91c), .v (vP x94p x94o x94l), .v (vI x95), .e, .r (vS x97a x97n x97c) H2, .v (vP x98p x98o x98l), .h H3, .e] (ai (decide_eq_true h1) (ai h2 (ai h3 (ai h4 (ai h5 (ai h6 (ai h7 (ai h8 (ai h9 (ai h10 (ai h11 (ai h12 (ai h13 (ai h14 (ai h15 (ai h16 (ai h17 (ai h18 (ai h19 (ai h20 (ai h21 (ai h22 (ai h23 (Eq.refl (Sum.inl ([vS x6a x6n x6c, vS x7a x7n x7c, vI x8, vP x10p x10o x10l, vS x11a x11n x11c, vP x12p x12o x12l, vI x13, vI x40, vI x41, vS x56a x56n x56c, vI x57, vI (x58 + 1)], H3) : LS ⊕ LO))))))))))))))))))))))))) (by kernel_rfl)
theorem f31_L1_2 (h1 : ¬(x58 < x57)) : lpOf cfg a31 1 prot H0 ([.slice x6a x6n x6c, .slice x7a x7n x7c, .int .i64 x8, .pointer (some ⟨x10p, x10o, some x10l⟩), .slice x11a x11n x11c, .pointer (some ⟨x12p, x12o, some x12l⟩), .int .i64 x13, .int .i64 x40, .int .i64 x41, .slice x56a x56n x56c, .int .i64 x57, .int .i64 x58], H) = some (Sum.inr (Ex.exit 2, [Value.slice x6a x6n x6c, Value.slice x7a x7n x7c, Value.int .i64 x8, Value.pointer (some ⟨x10p, x10o, some x10l⟩), Value.slice x11a x11n x11c, Value.pointer (some ⟨x12p, x12o, some x12l⟩), Value.int .i64 x40, Value.int .i64 x41], H)) :=
 lp_of2 [.e, .b false] (ai (decide_eq_false h1) (Eq.refl (Sum.inr (Ex.exit 2, [vS x6a x6n x6c, vS x7a x7n x7c, vI x8, vP x10p x10o x10l, vS x11a x11n x11c, vP x12p x12o x12l, vI x40, vI x41], H) : LS ⊕ LO))) (by kernel_rfl)
theorem f31_L2_0 (h1 : x102 < x101) (h2 : getCells H x10p x10l x10o 1 = some [vS x105a x105n x105c]) (h3 : aX 22 (vS x105a x105n x105c) (vI x102) = some (vP x107p x107o x107l)) (h4 : getCells H x107p x107l x107o 1 = some [vI x108]) (h5 : aX 22 (vS x11a x11n x11c) (vI x102) = some (vP x111p x111o x111l)) (h6 : getCells H x111p x111l x111o 1 = some [vI x112]) (h7 : x108 > x112) : lpOf cfg a31 2 prot H0 ([.int .i64 x8, .pointer (some ⟨x10p, x10o, some x10l⟩), .slice x11a x11n x11c, .pointer (some ⟨x12p, x12o, some x12l⟩), .int .i64 x101, .int .i64 x102], H) = some (Sum.inr (Ex.ret, [Value.int .i64 0, Value.bool false, Value.int .i64 0, Value.int .i64 x8, Value.pointer (some ⟨x10p, x10o, some x10l⟩), Value.pointer (some ⟨x12p, x12o, some x12l⟩)], H)) :=
 lp_of2 [.e, .b true, .v (vS x105a x105n x105c), .v (vP x107p x107o x107l), .v (vI x108), .v (vP x111p x111o x111l), .v (vI x112), .e, .b true] (ai (decide_eq_true h1) (ai h2 (ai h3 (ai h4 (ai h5 (ai h6 (ai (decide_eq_true h7) (Eq.refl (Sum.inr (Ex.ret, [vI 0, Value.bool false, vI 0, vI x8, vP x10p x10o x10l, vP x12p x12o x12l], H) : LS ⊕ LO))))))))) (by kernel_rfl)
theorem f31_L2_1 (h1 : x102 < x101) (h2 : getCells H x10p x10l x10o 1 = some [vS x105a x105n x105c]) (h3 : aX 22 (vS x105a x105n x105c) (vI x102) = some (vP x107p x107o x107l)) (h4 : getCells H x107p x107l x107o 1 = some [vI x108]) (h5 : aX 22 (vS x11a x11n x11c) (vI x102) = some (vP x111p x111o x111l)) (h6 : getCells H x111p x111l x111o 1 = some [vI x112]) (h7 : ¬(x108 > x112)) (h8 : Fit .i64 (x102 + 1)) : lpOf cfg a31 2 prot H0 ([.int .i64 x8, .pointer (some ⟨x10p, x10o, some x10l⟩), .slice x11a x11n x11c, .pointer (some ⟨x12p, x12o, some x12l⟩), .int .i64 x101, .int .i64 x102], H) = some (Sum.inl ([Value.int .i64 x8, Value.pointer (some ⟨x10p, x10o, some x10l⟩), Value.slice x11a x11n x11c, Value.pointer (some ⟨x12p, x12o, some x12l⟩), Value.int .i64 x101, Value.int .i64 (x102 + 1)], H)) :=
 lp_of2 [.e, .b true, .v (vS x105a x105n x105c), .v (vP x107p x107o x107l), .v (vI x108), .v (vP x111p x111o x111l), .v (vI x112), .e, .b false, .e] (ai (decide_eq_true h1) (ai h2 (ai h3 (ai h4 (ai h5 (ai h6 (ai (decide_eq_false h7) (ai h8 (Eq.refl (Sum.inl ([vI x8, vP x10p x10o x10l, vS x11a x11n x11c, vP x12p x12o x12l, vI x101, vI (x102 + 1)], H) : LS ⊕ LO)))))))))) (by kernel_rfl)
theorem f31_L2_2 (h1 : ¬(x102 < x101)) : lpOf cfg a31 2 prot H0 ([.int .i64 x8, .pointer (some ⟨x10p, x10o, some x10l⟩), .slice x11a x11n x11c, .pointer (some ⟨x12p, x12o, some x12l⟩), .int .i64 x101, .int .i64 x102], H) = some (Sum.inr (Ex.exit 4, [Value.tuple { toList := [] }, Value.tuple { toList := [] }, Value.tuple { toList := [] }, Value.int .i64 x8, Value.pointer (some ⟨x10p, x10o, some x10l⟩), Value.pointer (some ⟨x12p, x12o, some x12l⟩)], H)) :=
 lp_of2 [.e, .b false] (ai (decide_eq_false h1) (Eq.refl (Sum.inr (Ex.exit 4, [Value.tuple #[], Value.tuple #[], Value.tuple #[], vI x8, vP x10p x10o x10l, vP x12p x12o x12l], H) : LS ⊕ LO))) (by kernel_rfl)
theorem f31_L3_0 (h1 : x119 < x118) (h2 : getCells H x18p x18l x18o 1 = some [Value.func (Fn.func 57) #[] #[vP x123ap x123ao x123al, vP x123bp x123bo x123bl, vP x123cp x123co x123cl, vP x123dp x123do x123dl]]) (h3 : cI 57 [vI x119, vP x123ap x123ao x123al, vP x123bp x123bo x123bl, vP x123cp x123co x123cl, vP x123dp x123do x123dl] H0.length H = some (vI x125, H2)) (h4 : Fit .i64 (x125 - 2)) (h5 : Fit .i64 (x119 + 1)) : lpOf cfg a31 3 prot H0 ([.int .i64 x2, .pointer (some ⟨x18p, x18o, some x18l⟩), .int .i64 x118, .int .i64 x119], H) = some (Sum.inl ([Value.int .i64 (if x125 - 2 > x2 then x125 - 2 else x2), Value.pointer (some ⟨x18p, x18o, some x18l⟩), Value.int .i64 x118, Value.int .i64 (x119 + 1)], H2)) :=
 lp_of2 [.e, .b true, .v (.func (.func 57) #[] #[vP x123ap x123ao x123al, vP x123bp x123bo x123bl, vP x123cp x123co x123cl, vP x123dp x123do x123dl]), .r (vI x125) H2, .e, .e, .e] (ai (decide_eq_true h1) (ai h2 (ai h3 (ai h4 (ai h5 (Eq.refl (Sum.inl ([vI (if x125 - 2 > x2 then x125 - 2 else x2), vP x18p x18o x18l, vI x118, vI (x119 + 1)], H2) : LS ⊕ LO))))))) (by kernel_rfl)
theorem f31_L3_1 (h1 : ¬(x119 < x118)) : lpOf cfg a31 3 prot H0 ([.int .i64 x2, .pointer (some ⟨x18p, x18o, some x18l⟩), .int .i64 x118, .int .i64 x119], H) = some (Sum.inr (Ex.exit 6, [Value.int .i64 x2], H)) :=
 lp_of2 [.e, .b false] (ai (decide_eq_false h1) (Eq.refl (Sum.inr (Ex.exit 6, [vI x2], H) : LS ⊕ LO))) (by kernel_rfl)
end
end Go.Proofs.Ythjkodbinkiifaa.Am23
namespace Go.Proofs.Ythjkodbinkiifaa.Am23
open Go Go.Proofs.Ythjkodbinkiifaa.Am
open Am23g (addE Out Mine out_start gc_mine Gr nl)
/-! Growth. -/
def RowsR (H : AHeap) (x : Value) (N : Nat) (R : Nat → List Nat) : Prop := ∃ cs, Rd H 22 1 x N cs ∧ ∀ j, j < N → ∃ r, cs[j]? = some r ∧ Rd H 3 1 r (R j).length (il (nl (R j)))
theorem RowsR.stay {H H' : AHeap} {x : Value} {N : Nat} {R : Nat → List Nat} (h : RowsR H x N R) (s : Stay none H H') : RowsR H' x N R := by
 obtain ⟨cs, h1, h2⟩ := h
 exact ⟨cs, h1.stay s, fun j hj => by obtain ⟨r, a, b⟩ := h2 j hj; exact ⟨r, a, b.stay s⟩⟩
theorem RowsR.at {H : AHeap} {x : Value} {N : Nat} {R : Nat → List Nat} (h : RowsR H x N R) {j : Nat} (hj : j < N) : ∃ id L a c, aindexAddr cfg.P 86 x (.int .i64 (j : Nat)) = some (.pointer (some ⟨id, j, some L⟩)) ∧ getCells H id L j 1 = some [.slice a (R j).length c] ∧ Rd H 3 1 (.slice a (R j).length c) (R j).length (il (nl (R j))) := by
 obtain ⟨cs, h1, h2⟩ := h
 obtain ⟨r, h3, h4⟩ := h2 j hj
 obtain ⟨id, L, h5, h6⟩ := rd_at Am23g.T22 h1 h3
 obtain ⟨a, c, e⟩ := h4.len
 subst e
 exact ⟨id, L, a, c, h5, h6, h4⟩
theorem nl_get {l : List Nat} {i t : Nat} (h : l[i]? = some t) : (il (nl l))[i]? = some (.int .i64 ((t : Nat) : Int)) := by
 unfold il nl; rw [List.getElem?_map, List.getElem?_map, h]; rfl
theorem drop_cons {l : List Nat} {i t : Nat} (h : l[i]? = some t) : l.drop i = t :: l.drop (i + 1) := by
 obtain ⟨h1, h2⟩ := List.getElem?_eq_some_iff.1 h
 rw [List.drop_eq_getElem_cons h1, h2]
section
variable {Hb : AHeap} {N n : Nat} {R : Nat → List Nat} {lc : Nat → Nat} {cl : List Value} {xg xl xe xz xo : Value} {pe po oe oz o3 : Nat}
theorem loop31a (hN : N ≤ 512) (hlc : ∀ v, v < N → lc v < n) (hcl : ∀ v, v < N → cl[v]? = some (.int .i64 ((lc v : Nat) : Int))) (hR : ∀ j t, t ∈ R j → t < N) (hRl : ∀ j, (R j).length ≤ 1000) (hg : ∃ a c, xg = .slice a N c) (hl : Rd Hb 3 1 xl N cl) {H0 : AHeap} (h0 : H0.length ≤ Hb.length) {prot s M : Nat} (hs : s < N) (hM : M ≤ 1000000) {a : Option Addr} {c : Nat} (hr : Rd Hb 3 1 (.slice a (R s).length c) (R s).length (il (nl (R s)))) {Z : Nat → Nat} : ∀ (d i : Nat) (E : Nat → Nat) (T : Nat → List Nat) (r : Nat → Value) (o : Nat → Option Nat) (H : AHeap), i + d = (R s).length →
   E31 Hb H n xe xz xo pe po oe oz o3 r o E Z T → (∀ x, E x ≤ M + i) → (∀ x, (T x).length ≤ M + i) →
  ∃ r' o' H', lpInf (lpOf cfg a31 1 prot H0) ([xg, xl, .int .i64 n, .pointer (some ⟨pe, 0, some 1⟩), xz, .pointer (some ⟨po, 0, some 1⟩), .int .i64 s, .int .i64 N, .int .i64 s, .slice a (R s).length c, .int .i64 (R s).length, .int .i64 i], H) =
    some (.exit 2, [xg, xl, .int .i64 n, .pointer (some ⟨pe, 0, some 1⟩), xz, .pointer (some ⟨po, 0, some 1⟩), .int .i64 N, .int .i64 s], H') ∧
   E31 Hb H' n xe xz xo pe po oe oz o3 r' o' (((R s).drop i).foldl (eStep lc s) E) Z (((R s).drop i).foldl (oStep lc s) T)
 | 0, i, E, T, r, o, H, hi, h, hE, hT => by
  rw [List.drop_eq_nil_of_le (by omega)]
  refine ⟨r, o, H, ?_, h⟩
  obtain ⟨_, _, rfl⟩ := hg
  obtain ⟨_, _, rfl⟩ := hl.len
  obtain ⟨_, _, rfl⟩ := h.z.len
  exact lp_last (f31_L1_2 (by omega))
 | d + 1, i, E, T, r, o, H, hi, h, hE, hT => by
  have hil : i < (R s).length := by omega
  have hRs := hRl s
  obtain ⟨t, ht⟩ : ∃ t, (R s)[i]? = some t := ⟨_, List.getElem?_eq_getElem hil⟩
  have htN := hR s t (List.mem_of_getElem? ht)
  rw [drop_cons ht, List.foldl_cons, List.foldl_cons]
  obtain ⟨i1, L1, a1, a2⟩ := rd_at T22 (hr.stay h.st) (nl_get ht)
  obtain ⟨i2, L2, b1, b2⟩ := rd_at T22 (hl.stay h.st) (hcl s hs)
  obtain ⟨i3, L3, c1, c2⟩ := rd_at T22 (hl.stay h.st) (hcl t htN)
  have fi : Fit .i64 ((i : Int) + 1) := fit64 (by omega) (by omega)
  have hcs := hlc s hs
  have hEs := hE (lc s)
  have hTs := hT (lc s)
  have q1 := one_get h.ge
  have q2 := one_get h.go
  have hE' : ∀ x, eStep lc s E t x ≤ M + (i + 1) := fun x => eStep_le hE
  have hT' : ∀ x, (oStep lc s T t x).length ≤ M + (i + 1) := fun x => oStep_len hT
  by_cases e : lc s = lc t
  ·obtain ⟨L, H1, d1, d2, d3, d4⟩ := h.bE hcs (prot := H0.length) h0
   have e1 : eStep lc s E t = bmp E (lc s) := by unfold eStep; rw [if_pos e]
   have e2 : oStep lc s T t = T := by unfold oStep; rw [if_pos e]
   rw [← e1] at d4
   rw [e2] at hT' ⊢
   obtain ⟨r', o', H', z1, z2⟩ := loop31a hN hlc hcl hR hRl hg hl h0 (prot := prot) hs hM hr d (i + 1) _ T r o H1 (by omega) d4 hE' hT'
   refine ⟨r', o', H', ?_, z2⟩
   obtain ⟨_, _, rfl⟩ := hg
   obtain ⟨_, _, rfl⟩ := hl.len
   obtain ⟨_, _, rfl⟩ := h.z.len
   obtain ⟨_, _, rfl⟩ := h.e.len
   exact lp_next (f31_L1_0 (by omega) a1 a2 b1 b2 c1 c2 (by rw [e]; simp) q1 b1 b2 d1 d2 (fit64 (by omega) (by omega)) d1 rfl d3 fi) z1
  ·obtain ⟨a', c', H2, H3, id3, L, d1, d2, d3, d4, r1, o1, d5⟩ := h.bT hcs (lc t) (by omega) (prot := H0.length) h0 (room := false)
   have e1 : eStep lc s E t = E := by unfold eStep; rw [if_neg e]
   have e2 : oStep lc s T t = addE T (lc s) (lc t) := by unfold oStep; rw [if_neg e]
   rw [← e2] at d5
   rw [e1] at hE' ⊢
   obtain ⟨r', o', H', z1, z2⟩ := loop31a hN hlc hcl hR hRl hg hl h0 (prot := prot) hs hM hr d (i + 1) E _ r1 o1 H3 (by omega) d5 hE' hT'
   refine ⟨r', o', H', ?_, z2⟩
   obtain ⟨_, _, hre⟩ := (h.out.rx _ hcs).len
   rw [hre] at d2 d3
   have hne : (((lc s : Nat) : Int) == ((lc t : Nat) : Int)) = false := by simp; omega
   obtain ⟨_, _, rfl⟩ := hg
   obtain ⟨_, _, rfl⟩ := hl.len
   obtain ⟨_, _, rfl⟩ := h.z.len
   obtain ⟨_, _, rfl⟩ := h.e.len
   obtain ⟨_, _, rfl⟩ := h.out.x3.len
   exact lp_next (f31_L1_1 (by omega) a1 a2 b1 b2 c1 c2 hne q2 b1 b2 q2 b1 b2 d1 d2 c1 c2 d3 d1 rfl d4 fi) z1
theorem loop31b (hN : N ≤ 512) (hlc : ∀ v, v < N → lc v < n) (hcl : ∀ v, v < N → cl[v]? = some (.int .i64 ((lc v : Nat) : Int))) (hR : ∀ j t, t ∈ R j → t < N) (hRl : ∀ j, (R j).length ≤ 1000) (hg : RowsR Hb xg N R) (hl : Rd Hb 3 1 xl N cl) {H0 : AHeap} (h0 : H0.length ≤ Hb.length) {prot : Nat} : ∀ (d s : Nat) (E Z : Nat → Nat) (T : Nat → List Nat) (r : Nat → Value) (o : Nat → Option Nat) (H : AHeap), s + d = N →
   E31 Hb H n xe xz xo pe po oe oz o3 r o E Z T → (∀ x, E x ≤ s * 1000) → (∀ x, Z x ≤ s) → (∀ x, (T x).length ≤ s * 1000) →
  ∃ r' o' H', lpInf (lpOf cfg a31 0 prot H0) ([xg, xl, .int .i64 n, .pointer (some ⟨pe, 0, some 1⟩), xz, .pointer (some ⟨po, 0, some 1⟩), .int .i64 N, .int .i64 s], H) =
    some (.exit 0, [.int .i64 n, .pointer (some ⟨pe, 0, some 1⟩), xz, .pointer (some ⟨po, 0, some 1⟩)], H') ∧
   E31 Hb H' n xe xz xo pe po oe oz o3 r' o' (eAll lc R d s E) (zAll lc d s Z) (oAll lc R d s T)
 | 0, s, E, Z, T, r, o, H, hi, h, hE, hZ, hT => by
  refine ⟨r, o, H, ?_, h⟩
  obtain ⟨_, hgr, _⟩ := hg
  obtain ⟨_, _, rfl⟩ := hgr.len
  obtain ⟨_, _, rfl⟩ := hl.len
  obtain ⟨_, _, rfl⟩ := h.z.len
  exact lp_last (f31_L0_1 (by omega))
 | d + 1, s, E, Z, T, r, o, H, hi, h, hE, hZ, hT => by
  have hs : s < N := by omega
  have hcs := hlc s hs
  have hRs := hRl s
  obtain ⟨i2, L2, b1, b2⟩ := rd_at T22 (hl.stay h.st) (hcl s hs)
  obtain ⟨L, H1, d1, d2, d3, d4⟩ := h.bZ hcs (prot := H0.length) h0
  obtain ⟨id, L4, a, c, g1, g2, g3⟩ := (hg.stay d4.st).at hs
  obtain ⟨_, _, a0, c0, _, g4, g5⟩ := hg.at hs
  have hg' := hg
  obtain ⟨_, hgr, _⟩ := hg'
  have hrow : Rd Hb 3 1 (.slice a (R s).length c) (R s).length (il (nl (R s))) := by
   obtain ⟨cs, h1, h2⟩ := hg
   obtain ⟨r, h3, h4⟩ := h2 s hs
   obtain ⟨i5, L5, h5, h6⟩ := rd_at Am23g.T22 (h1.stay d4.st) h3
   rw [h5] at g1
   cases g1
   rw [h6] at g2
   cases g2
   exact h4
  obtain ⟨r1, o1, H2, y1, y2⟩ := loop31a hN hlc hcl hR hRl hgr.len hl h0 (prot := prot) hs (M := s * 1000) (by omega) hrow (R s).length 0 E T r o H1 (by omega) d4 (fun x => by rw [Nat.add_zero]; exact hE x) (fun x => by rw [Nat.add_zero]; exact hT x)
  rw [List.drop_zero] at y2
  obtain ⟨r', o', H', z1, z2⟩ := loop31b hN hlc hcl hR hRl hg hl h0 (prot := prot) d (s + 1) _ _ _ r1 o1 H2 (by omega) y2 (fun x => by
   have := eFold_le (lc := lc) (s := s) (R s) (x := x) hE; omega) (fun x => by
   have := bmp_le (c := lc s) (x := x) hZ; omega) (fun x => by
   have := oFold_len (lc := lc) (s := s) (R s) (x := x) hT; omega)
  refine ⟨r', o', H', ?_, z2⟩
  have hZs := hZ (lc s)
  obtain ⟨_, _, rfl⟩ := hgr.len
  obtain ⟨_, _, rfl⟩ := hl.len
  obtain ⟨_, _, rfl⟩ := h.z.len
  exact lp_next (f31_L0_0 (by omega) b1 b2 d1 d2 (fit64 (by omega) (by omega)) d1 rfl d3 g1 g2 y1 (fit64 (by omega) (by omega))) z1
/-- Has a component more edges than vertices? -/
theorem loop31c {H H0 : AHeap} {r : Nat → Value} {o : Nat → Option Nat} {E Z : Nat → Nat} {T : Nat → List Nat} {prot : Nat} (hn : n ≤ 512) (h : E31 Hb H n xe xz xo pe po oe oz o3 r o E Z T) : ∀ (d c : Nat), c + d = n → (∀ x, x < c → E x ≤ Z x) →
  ((∃ x, x < n ∧ Z x < E x) ∧ lpInf (lpOf cfg a31 2 prot H0) ([.int .i64 n, .pointer (some ⟨pe, 0, some 1⟩), xz, .pointer (some ⟨po, 0, some 1⟩), .int .i64 n, .int .i64 c], H) = some (.ret, [.int .i64 0, .bool false, .int .i64 0, .int .i64 n, .pointer (some ⟨pe, 0, some 1⟩), .pointer (some ⟨po, 0, some 1⟩)], H)) ∨
  ((∀ x, x < n → E x ≤ Z x) ∧ lpInf (lpOf cfg a31 2 prot H0) ([.int .i64 n, .pointer (some ⟨pe, 0, some 1⟩), xz, .pointer (some ⟨po, 0, some 1⟩), .int .i64 n, .int .i64 c], H) = some (.exit 4, [.tuple #[], .tuple #[], .tuple #[], .int .i64 n, .pointer (some ⟨pe, 0, some 1⟩), .pointer (some ⟨po, 0, some 1⟩)], H))
 | 0, c, hi, hE => by
  have : c = n := by omega
  subst this
  obtain ⟨_, _, rfl⟩ := h.z.len
  exact .inr ⟨hE, lp_last (f31_L2_2 (by omega))⟩
 | d + 1, c, hi, hE => by
  have hc : c < n := by omega
  have q1 := one_get h.ge
  obtain ⟨i1, L1, a1, a2⟩ := own_at T22 h.e (faL_get hc)
  obtain ⟨i2, L2, b1, b2⟩ := own_at T22 h.z (faL_get hc)
  have fi : Fit .i64 ((c : Int) + 1) := fit64 (by omega) (by omega)
  by_cases e : Z c < E c
  ·obtain ⟨_, _, rfl⟩ := h.z.len
   obtain ⟨_, _, rfl⟩ := h.e.len
   exact .inl ⟨⟨c, hc, e⟩, lp_last (f31_L2_0 (by omega) q1 a1 a2 b1 b2 (by omega))⟩
  ·have ih := loop31c (H0 := H0) (prot := prot) hn h d (c + 1) (by omega) (fun x hx => by
    by_cases ex : x = c
    ·subst ex; omega
    ·exact hE x (by omega))
   obtain ⟨_, _, rfl⟩ := h.z.len
   obtain ⟨_, _, rfl⟩ := h.e.len
   rcases ih with ⟨h1, h2⟩ | ⟨h1, h2⟩
   ·exact .inl ⟨h1, lp_next (f31_L2_1 (by omega) q1 a1 a2 b1 b2 (by omega) fi) h2⟩
   ·exact .inr ⟨h1, lp_next (f31_L2_1 (by omega) q1 a1 a2 b1 b2 (by omega) fi) h2⟩
end
/-- The degree. -/
theorem loop31d {B n : Nat} {T : Nat → List Nat} {h o E r : Nat → Nat} (hn : n ≤ 512) (hh : HtW (fun c d => decide (d ∈ T c)) n o h) (hT : ∀ c d, d ∈ T c → d < n ∧ d ≠ c ∧ r d < r c) (hT2 : ∀ c, (T c).length ≤ 1000000) (hb : ∀ c, c < n → h c ≤ 1000) (ho : ∀ c, c < n → o c = min 1 (E c)) {xd xg xe : Value} {od oe p1 p2 p3 p4 prot : Nat} {H0 : AHeap} (hp : H0.length ≤ od) : ∀ (d c : Nat) (m : Int) (D : Nat → Nat) (H : AHeap), c + d = n → WG (fGr p1 p2 p3 p4) B H n T (fun c => h c + 1) E xd xg xe od oe p1 p2 p3 p4 D → m = ((topH h c : Nat) : Int) - 1 →
  ∃ H', lpInf (lpOf cfg a31 3 prot H0) ([.int .i64 m, .pointer (some ⟨p3, 0, some 1⟩), .int .i64 n, .int .i64 c], H) = some (.exit 6, [.int .i64 (((topH h n : Nat) : Int) - 1)], H')
 | 0, c, m, D, H, hi, hw, hm => by
  have : c = n := by omega
  subst this
  subst hm
  exact ⟨H, lp_last (f31_L3_1 (by omega))⟩
 | d + 1, c, m, D, H, hi, hw, hm => by
  have hc : c < n := by omega
  have hbc := hb c hc
  have g3 := one_get hw.w.g3
  obtain ⟨D', H1, y1, y2, y3⟩ := c57 hn hh hT hT2 hb ho (prot := H0.length) hp (r c + 1) c H D hc (by omega) hw
  have hif : (if ((h c + 1 : Nat) : Int) - 2 > m then ((h c + 1 : Nat) : Int) - 2 else m) = ((topH h (c + 1) : Nat) : Int) - 1 := by
   subst hm
   rw [topH]
   split <;> omega
  obtain ⟨H', z1⟩ := loop31d hn hh hT hT2 hb ho (prot := prot) hp d (c + 1) _ D' H1 (by omega) y2 hif
  exact ⟨H', lp_next (f31_L3_0 (by omega) g3 y1 (fit64 (by omega) (by omega)) (fit64 (by omega) (by omega))) z1⟩
end Go.Proofs.Ythjkodbinkiifaa.Am23
namespace Go.Proofs.Ythjkodbinkiifaa.Am23
open Go Go.Proofs.Ythjkodbinkiifaa.Am
open Am23g (addE Out Mine out_start gc_mine Gr nl Rch RQ sc comp Lc abv Abv abv_iff chk Short Lc_lt comp_n)
/-! Growth, in plain terms. -/
theorem mem_oFold {lc : Nat → Nat} {s c d : Nat} : ∀ (l : List Nat) (T : Nat → List Nat), d ∈ l.foldl (oStep lc s) T c ↔ d ∈ T c ∨ ∃ t, t ∈ l ∧ lc s = c ∧ lc t = d ∧ c ≠ d
 | [], T => by simp
 | t :: l, T => by
  rw [List.foldl_cons, mem_oFold l]
  have : d ∈ oStep lc s T t c ↔ d ∈ T c ∨ (lc s = c ∧ lc t = d ∧ c ≠ d) := by
   unfold oStep
   split
   ·rename_i e
    constructor
    ·exact .inl
    ·rintro (h | ⟨h1, h2, h3⟩)
     ·exact h
     ·exact absurd (h1.symm.trans (e.trans h2)) h3
   ·rename_i e
    unfold addE
    split
    ·rename_i e2
     subst e2
     rw [List.mem_append, List.mem_singleton]
     constructor
     ·rintro (h | h)
      ·exact .inl h
      ·exact .inr ⟨rfl, h.symm, fun e3 => e (e3.trans h)⟩
     ·rintro (h | ⟨_, h, _⟩)
      ·exact .inl h
      ·exact .inr h.symm
    ·rename_i e2
     constructor
     ·exact .inl
     ·rintro (h | ⟨h, _⟩)
      ·exact h
      ·exact absurd h.symm e2
  rw [this]
  constructor
  ·rintro ((h | ⟨h1, h2, h3⟩) | ⟨u, h1, h2⟩)
   ·exact .inl h
   ·exact .inr ⟨t, by simp, h1, h2, h3⟩
   ·exact .inr ⟨u, by simp [h1], h2⟩
  ·rintro (h | ⟨u, h1, h2⟩)
   ·exact .inl (.inl h)
   ·rcases List.mem_cons.1 h1 with rfl | h1
    ·exact .inl (.inr h2)
    ·exact .inr ⟨u, h1, h2⟩
theorem mem_oAll {lc : Nat → Nat} {R : Nat → List Nat} {c d : Nat} : ∀ (m s : Nat) (T : Nat → List Nat), d ∈ oAll lc R m s T c ↔ d ∈ T c ∨ ∃ x t, s ≤ x ∧ x < s + m ∧ t ∈ R x ∧ lc x = c ∧ lc t = d ∧ c ≠ d
 | 0, s, T => by
  rw [oAll]
  constructor
  ·exact .inl
  ·rintro (h | ⟨x, t, h1, h2, _⟩)
   ·exact h
   ·omega
 | m + 1, s, T => by
  rw [oAll, mem_oAll m, mem_oFold]
  constructor
  ·rintro ((h | ⟨t, h1, h2⟩) | ⟨x, t, h1, h2, h3⟩)
   ·exact .inl h
   ·exact .inr ⟨s, t, by omega, by omega, h1, h2⟩
   ·exact .inr ⟨x, t, by omega, by omega, h3⟩
  ·rintro (h | ⟨x, t, h1, h2, h3⟩)
   ·exact .inl (.inl h)
   ·by_cases e : x = s
    ·subst e; exact .inl (.inr ⟨t, h3⟩)
    ·exact .inr ⟨x, t, by omega, by omega, h3⟩
theorem oAll_len {lc : Nat → Nat} {R : Nat → List Nat} (hR : ∀ j, (R j).length ≤ 1000) : ∀ (m s M : Nat) (T : Nat → List Nat), (∀ x, (T x).length ≤ M) → ∀ x, (oAll lc R m s T x).length ≤ M + m * 1000
 | 0, s, M, T, h, x => by rw [oAll]; have := h x; omega
 | m + 1, s, M, T, h, x => by
  rw [oAll]
  have := oAll_len (lc := lc) hR m (s + 1) (M + 1000) ((R s).foldl (oStep lc s) T) (fun x => by
   have h1 := oFold_len (lc := lc) (s := s) (R s) (x := x) h
   have h2 := hR s
   exact Nat.le_trans h1 (by omega)) x
  rw [Nat.succ_mul]; omega
section
variable (k : Nat) (xs : List Int) (bs : List Bool)
noncomputable def gN : Nat := (comp (gU k xs bs)).2
noncomputable def gE : Nat → Nat := eAll (Lc (gU k xs bs)) (inL k xs (uB k xs bs)) bs.length 0 (fun _ => 0)
noncomputable def gZ : Nat → Nat := zAll (Lc (gU k xs bs)) bs.length 0 (fun _ => 0)
noncomputable def gT : Nat → List Nat := oAll (Lc (gU k xs bs)) (inL k xs (uB k xs bs)) bs.length 0 (fun _ => [])
noncomputable def gO : Nat → Nat := fun c => min 1 (gE k xs bs c)
noncomputable def gR : Nat → Nat := hgt (abv (gU k xs bs)) (gN k xs bs) (gN k xs bs)
noncomputable def gW : Nat → Nat := hgtW (abv (gU k xs bs)) (gN k xs bs) (gO k xs bs) (gN k xs bs)
end
open Classical in
/-- What Growth answers. -/
noncomputable def growV (k : Int) (xs : List Int) (bs : List Bool) : Int × Bool :=
 if chkG k xs bs = 0 ∧ ∀ c, c < gN k.toNat xs bs → gE k.toNat xs bs c ≤ gZ k.toNat xs bs c then (((topH (gW k.toNat xs bs) (gN k.toNat xs bs) : Nat) : Int) - 1, true) else (0, false)
section
variable {k : Nat} {xs : List Int} {bs : List Bool}
theorem gR_ok : Ht (abv (gU k xs bs)) (gN k xs bs) (gR k xs bs) :=
 hgt_ok (fun c d e h1 h2 => abv_iff.2 ((abv_iff.1 h1).trans (abv_iff.1 h2))) (fun c d h1 h2 => (abv_iff.1 h1).anti (abv_iff.1 h2))
theorem gW_ok : HtW (abv (gU k xs bs)) (gN k xs bs) (gO k xs bs) (gW k xs bs) := hgtW_ok gR_ok _
theorem gN_le (hG : Good k xs bs) : gN k xs bs ≤ 512 := by
 have := comp_n (gU k xs bs)
 rw [gU_len] at this
 have := hG.n5
 unfold gN; omega
theorem gW_le (hG : Good k xs bs) {c : Nat} (hc : c < gN k xs bs) : gW k xs bs c ≤ gN k xs bs := by
 have h1 := gR_ok.lt c hc
 have := gW_ok.le gR_ok (fun c _ => by unfold gO; omega) (gR k xs bs c + 1) c hc (by omega)
 omega
theorem lc_lt {v : Nat} (h : v < bs.length) : Lc (gU k xs bs) v < gN k xs bs := Lc_lt (by rw [gU_len]; exact h)
theorem gT_mem (hG : Good k xs bs) {c d : Nat} : d ∈ gT k xs bs c ↔ ∃ x t, x < bs.length ∧ t < bs.length ∧ t ∈ sc (gU k xs bs) x ∧ Lc (gU k xs bs) x = c ∧ Lc (gU k xs bs) t = d ∧ c ≠ d := by
 unfold gT
 rw [mem_oAll]
 constructor
 ·rintro (h | ⟨x, t, _, h2, h3, h4⟩)
  ·cases h
  ·have hx : x < bs.length := by omega
   refine ⟨x, t, hx, uB_lt hG (inL_mem.1 h3).2.1, ?_, h4⟩
   rw [sc_gU hx]; exact h3
 ·rintro ⟨x, t, h1, h2, h3, h4⟩
  rw [sc_gU h1] at h3
  exact .inr ⟨x, t, by omega, by omega, h3, h4⟩
theorem gT_abv (hG : Good k xs bs) {c d : Nat} (h : d ∈ gT k xs bs c) : abv (gU k xs bs) c d = true ∧ d < gN k xs bs ∧ c < gN k xs bs ∧ d ≠ c := by
 obtain ⟨x, t, h1, h2, h3, h4, h5, h6⟩ := (gT_mem hG).1 h
 refine ⟨abv_iff.2 ⟨x, t, by rw [gU_len]; exact h1, by rw [gU_len]; exact h2, h4, h5, .inr (.one h3)⟩, ?_, ?_, fun e => h6 e.symm⟩
 ·rw [← h5]; exact lc_lt h2
 ·rw [← h4]; exact lc_lt h1
/-- A way out of a component begins with an edge out of it. -/
theorem way_out (hG : Good k xs bs) {v u : Nat} (hr : Rch (gU k xs bs) v u) : u < bs.length → Lc (gU k xs bs) u ≠ Lc (gU k xs bs) v →
  ∃ e, e ∈ gT k xs bs (Lc (gU k xs bs) v) ∧ Abv (gU k xs bs) e (Lc (gU k xs bs) u) := by
 have self : ∀ {u}, u < bs.length → Abv (gU k xs bs) (Lc (gU k xs bs) u) (Lc (gU k xs bs) u) := fun {u} h => ⟨u, u, by rw [gU_len]; exact h, by rw [gU_len]; exact h, rfl, rfl, .inl rfl⟩
 induction hr with
 | one h => exact fun hu hne => ⟨_, (gT_mem hG).2 ⟨_, _, sc_lt' h, hu, h, rfl, rfl, fun e => hne e.symm⟩, self hu⟩
 | @step w u h1 h2 ih =>
  intro hu hne
  have hw := sc_lt' h2
  by_cases e : Lc (gU k xs bs) w = Lc (gU k xs bs) v
  ·refine ⟨_, (gT_mem hG).2 ⟨w, u, hw, hu, h2, e, rfl, fun e2 => hne e2.symm⟩, self hu⟩
  ·obtain ⟨x, x1, x2⟩ := ih hw e
   exact ⟨x, x1, x2.trans ⟨w, u, by rw [gU_len]; exact hw, by rw [gU_len]; exact hu, rfl, rfl, .inr (.one h2)⟩⟩
theorem gW_next (hG : Good k xs bs) : HtW (fun c d => decide (d ∈ gT k xs bs c)) (gN k xs bs) (gO k xs bs) (gW k xs bs) := by
 refine gW_ok.next (fun c d h => (gT_abv hG (of_decide_eq_true h)).1) (fun c d hc hd hne ha => ?_)
 obtain ⟨v, u, h1, h2, h3, h4, h5⟩ := abv_iff.1 ha
 rw [gU_len] at h1 h2
 rcases h5 with e | h5
 ·subst e; exact absurd (h4.symm.trans h3) hne
 ·subst h3; subst h4
  obtain ⟨e, e1, e2⟩ := way_out hG h5 h2 hne
  obtain ⟨_, g2, _, g4⟩ := gT_abv hG e1
  refine ⟨e, g2, g4, decide_eq_true e1, ?_⟩
  by_cases h : e = Lc (gU k xs bs) u
  ·exact .inl h
  ·exact .inr ⟨fun h' => h h'.symm, abv_iff.2 e2⟩
theorem gU_good (hG : Good k xs bs) : Short (gU k xs bs) ∧ chk (gU k xs bs) = 0 := by
 have h5 := hG.n5
 have h8 := hG.k8
 have hm : ∀ l, l ∈ gU k xs bs → ∃ s, s < bs.length ∧ l = nl (inL k xs (uB k xs bs) s) := fun l hl => by
  unfold gU at hl
  obtain ⟨s, h1, h2⟩ := List.mem_map.1 hl
  exact ⟨s, List.mem_range.1 h1, h2.symm⟩
 constructor
 ·intro l hl
  obtain ⟨s, _, rfl⟩ := hm l hl
  have := inL_len k xs (uB k xs bs) s
  unfold nl
  rw [List.length_map]; omega
 ·unfold chk
  rw [gU_len, if_neg (by omega), if_neg]
  intro h
  rw [List.any_eq_true] at h
  obtain ⟨l, hl, hb⟩ := h
  obtain ⟨s, _, rfl⟩ := hm l hl
  unfold Am23g.bad at hb
  rw [List.any_eq_true] at hb
  obtain ⟨x, hx, hb⟩ := hb
  unfold nl at hx
  obtain ⟨t, ht, rfl⟩ := List.mem_map.1 hx
  have := uB_lt hG (inL_mem.1 ht).2.1
  have := of_decide_eq_true hb
  omega
end
theorem gr_of {H : AHeap} {x : Value} {k : Nat} {xs : List Int} {bs : List Bool} (h : RowsR H x bs.length (inL k xs (uB k xs bs))) : Gr H x (gU k xs bs) := by
 obtain ⟨cs, h1, h2⟩ := h
 refine ⟨cs, by rw [gU_len]; exact h1, fun i l hi => ?_⟩
 have hil := (List.getElem?_eq_some_iff.1 hi).1
 rw [gU_len] at hil
 rw [gU_get hil] at hi
 cases hi
 obtain ⟨r, a, b⟩ := h2 i hil
 refine ⟨r, a, ?_⟩
 have : (nl (inL k xs (uB k xs bs) i)).length = (inL k xs (uB k xs bs) i).length := by unfold nl; rw [List.length_map]
 rw [this]; exact b
end Go.Proofs.Ythjkodbinkiifaa.Am23
set_option linter.unusedVariables false
open Go Go.Proofs.Ythjkodbinkiifaa.Am
namespace Go.Proofs.Ythjkodbinkiifaa.Am23
section
variable {x0 x15i x15r : Int}
variable {x1 : ByteArray}
variable {H H1 H0 H2 : AHeap}
variable {prot x14p : Nat}
variable {z4 : Value}
theorem f44_F_0 (h1 : x0 < 1) : callInf cfg 44 [.int .i64 x0, .string x1] prot H = some (Value.int .i64 20, H) :=
 fn_of2 a44 [.e, .b true, .b true, .b true, .b true] (ai (decide_eq_true h1) (ai (decide_eq_true h1) (ai (decide_eq_true h1) (ai (Eq.refl true) (Eq.refl ((vI 20, H) : Value × AHeap)))))) (by kernel_rfl) rfl
theorem f44_F_1 (h1 : ¬(x0 < 1)) (h2 : x0 > 8) : callInf cfg 44 [.int .i64 x0, .string x1] prot H = some (Value.int .i64 20, H) :=
 fn_of2 a44 [.e, .b false, .b false, .e, .b false, .b true] (ai (decide_eq_false h1) (ai (decide_eq_false h1) (ai (decide_eq_false h1) (ai (decide_eq_true h2) (Eq.refl ((vI 20, H) : Value × AHeap)))))) (by kernel_rfl) rfl
theorem f44_F_2 (h1 : ¬(x0 < 1)) (h2 : ¬(x0 > 8)) (h3 : lI a44 0 prot H ([vI x0, vP H.length 0 0], H ++ [AObj.iter x1 0]) = some (Ex.exit 0, [z4], H1)) : callInf cfg 44 [.int .i64 x0, .string x1] prot H = some (Value.int .i64 0, H) :=
 fn_of2 a44 [.e, .b false, .b false, .e, .b false, .b false, .e, .lo (.exit 0, [z4], H1)] (ai (decide_eq_false h1) (ai (decide_eq_false h1) (ai (decide_eq_false h1) (ai (decide_eq_false h2) (ai h3 (Eq.refl ((vI 0, H) : Value × AHeap))))))) (by kernel_rfl) rfl
theorem f44_F_3 {z4 : Int} (h1 : ¬(x0 < 1)) (h2 : ¬(x0 > 8)) (h3 : lI a44 0 prot H ([vI x0, vP H.length 0 0], H ++ [AObj.iter x1 0]) = some (Ex.ret, [vI z4], H1)) : callInf cfg 44 [.int .i64 x0, .string x1] prot H = some (Value.int .i64 z4, H) :=
 fn_of2 a44 [.e, .b false, .b false, .e, .b false, .b false, .e, .lo (.ret, [vI z4], H1)] (ai (decide_eq_false h1) (ai (decide_eq_false h1) (ai (decide_eq_false h1) (ai (decide_eq_false h2) (ai h3 (Eq.refl ((vI z4, H) : Value × AHeap))))))) (by kernel_rfl) rfl
theorem f44_L0_0 (h1 : anext H0.length (vP x14p 0 0) H = some (Value.tuple #[Value.bool true, vI x15i, Value.int .i32 x15r], H2)) (h2 : x15r < 97) : lpOf cfg a44 0 prot H0 ([.int .i64 x0, .pointer (some ⟨x14p, 0, some 0⟩)], H) = some (Sum.inr (Ex.ret, [Value.int .i64 21], H2)) :=
 lp_of2 [.r (.tuple #[.bool true, vI x15i, .int .i32 x15r]) H2, .b true, .e, .b true, .b true, .b true, .b true, .b true, .b true, .b true] (ai h1 (ai (Eq.refl true) (ai (decide_eq_true h2) (ai (decide_eq_true h2) (ai (decide_eq_true h2) (ai (decide_eq_true h2) (ai (decide_eq_true h2) (ai (decide_eq_true h2) (ai (Eq.refl true) (Eq.refl (Sum.inr (Ex.ret, [vI 21], H2) : LS ⊕ LO))))))))))) (by kernel_rfl)
theorem f44_L0_1 (h1 : anext H0.length (vP x14p 0 0) H = some (Value.tuple #[Value.bool true, vI x15i, Value.int .i32 x15r], H2)) (h2 : ¬(x15r < 97)) (h3 : Fit .i32 x0) (h4 : Fit .i32 (97 + x0)) (h5 : x15r ≥ 97 + x0) : lpOf cfg a44 0 prot H0 ([.int .i64 x0, .pointer (some ⟨x14p, 0, some 0⟩)], H) = some (Sum.inr (Ex.ret, [Value.int .i64 21], H2)) :=
 lp_of2 [.r (.tuple #[.bool true, vI x15i, .int .i32 x15r]) H2, .b true, .e, .b false, .b false, .b false, .e, .b false, .e, .b false, .e, .b false, .b true] (ai h1 (ai (Eq.refl true) (ai (decide_eq_false h2) (ai (decide_eq_false h2) (ai (decide_eq_false h2) (ai h3 (ai (decide_eq_false h2) (ai h4 (ai (decide_eq_false h2) (ai (decide_eq_false h2) (ai (decide_eq_true h5) (Eq.refl (Sum.inr (Ex.ret, [vI 21], H2) : LS ⊕ LO))))))))))))) (by kernel_rfl)
theorem f44_L0_2 (h1 : anext H0.length (vP x14p 0 0) H = some (Value.tuple #[Value.bool true, vI x15i, Value.int .i32 x15r], H2)) (h2 : ¬(x15r < 97)) (h3 : Fit .i32 x0) (h4 : Fit .i32 (97 + x0)) (h5 : ¬(x15r ≥ 97 + x0)) : lpOf cfg a44 0 prot H0 ([.int .i64 x0, .pointer (some ⟨x14p, 0, some 0⟩)], H) = some (Sum.inl ([Value.int .i64 x0, Value.pointer (some ⟨x14p, 0, some 0⟩)], H2)) :=
 lp_of2 [.r (.tuple #[.bool true, vI x15i, .int .i32 x15r]) H2, .b true, .e, .b false, .b false, .b false, .e, .b false, .e, .b false, .e, .b false, .b false] (ai h1 (ai (Eq.refl true) (ai (decide_eq_false h2) (ai (decide_eq_false h2) (ai (decide_eq_false h2) (ai h3 (ai (decide_eq_false h2) (ai h4 (ai (decide_eq_false h2) (ai (decide_eq_false h2) (ai (decide_eq_false h5) (Eq.refl (Sum.inl ([vI x0, vP x14p 0 0], H2) : LS ⊕ LO))))))))))))) (by kernel_rfl)
theorem f44_L0_3 (h1 : anext H0.length (vP x14p 0 0) H = some (Value.tuple #[Value.bool false], H2)) : lpOf cfg a44 0 prot H0 ([.int .i64 x0, .pointer (some ⟨x14p, 0, some 0⟩)], H) = some (Sum.inr (Ex.exit 0, [Value.tuple { toList := [] }], H2)) :=
 lp_of2 [.r (.tuple #[.bool false]) H2, .b false] (ai h1 (ai (Eq.refl false) (Eq.refl (Sum.inr (Ex.exit 0, [Value.tuple #[]], H2) : LS ⊕ LO)))) (by kernel_rfl)
end
end Go.Proofs.Ythjkodbinkiifaa.Am23
namespace Go.Proofs.Ythjkodbinkiifaa.Am23
open Go Go.Proofs.Ythjkodbinkiifaa.Am

theorem dec_low (s : ByteArray) (i : Nat) (h : (s.get! i).toNat < 128) : Utf8.decode s i = ((s.get! i).toNat, 1) := by
 simp only [Utf8.decode, Nat.add_zero]
 rw [if_pos h]
theorem dec_high (s : ByteArray) (i : Nat) (h : ¬ (s.get! i).toNat < 128) : 128 ≤ (Utf8.decode s i).1 ∧ (Utf8.decode s i).1 ≤ 1114111 ∧ 1 ≤ (Utf8.decode s i).2 := by
 have hb : ∀ k, (s.get! (i + k)).toNat < 256 := fun k => (s.get! (i + k)).toNat_lt
 have h0 := hb 0; have h1 := hb 1; have h2 := hb 2; have h3 := hb 3
 simp only [Utf8.decode, Nat.add_zero, if_neg h]
 repeat' split
 all_goals simp_all [Utf8.runeError, Utf8.valid]
 all_goals omega

/-- Are all letters from i on (d of them) among the first k? -/
def okFrom (k : Nat) (w : ByteArray) : Nat → Nat → Bool
 | 0, _ => true
 | d + 1, i => decide (97 ≤ (w.get! i).toNat ∧ (w.get! i).toNat < 97 + k) && okFrom k w d (i + 1)
def okW (k : Nat) (w : ByteArray) : Bool := okFrom k w w.size 0

theorem okFrom_iff (k : Nat) (w : ByteArray) : ∀ d i, okFrom k w d i = true ↔ ∀ j, i ≤ j → j < i + d → 97 ≤ (w.get! j).toNat ∧ (w.get! j).toNat < 97 + k
 | 0, i => by simp [okFrom]; intro j h1 h2; omega
 | d + 1, i => by
  simp only [okFrom, Bool.and_eq_true, decide_eq_true_eq, okFrom_iff k w d (i + 1)]
  constructor
  ·rintro ⟨h1, h2⟩ j hj1 hj2
   by_cases e : j = i
   ·subst e; exact h1
   ·exact h2 j (by omega) (by omega)
  ·intro h
   exact ⟨h i (by omega) (by omega), fun j h1 h2 => h j (by omega) (by omega)⟩
theorem loop44 {k : Nat} (hk1 : 1 ≤ k) (hk : k ≤ 8) (w : ByteArray) (H0 : AHeap) (prot : Nat) (p : Nat) (hp : H0.length ≤ p) : ∀ (d i : Nat) (H : AHeap), i + d = w.size → H[p]? = some (.iter w i) →
  ∃ H' v, lpInf (lpOf cfg a44 0 prot H0) ([.int .i64 k, .pointer (some ⟨p, 0, some 0⟩)], H) = some (if okFrom k w d i then (.exit 0, [v], H') else (.ret, [.int .i64 21], H'))
 | 0, i, H, hi, hH => by
  refine ⟨H, .tuple #[], lp_last (f44_L0_3 ?_)⟩
  unfold anext
  simp only
  rw [hH]
  simp only
  rw [if_pos hp, if_neg (by omega)]
 | d + 1, i, H, hi, hH => by
  have hn : anext H0.length (.pointer (some ⟨p, 0, some 0⟩)) H = some (.tuple #[.bool true, .int .i64 i, .int .i32 (Utf8.decode w i).1], H.set p (.iter w (i + (Utf8.decode w i).2))) := by
   unfold anext
   simp only
   rw [hH]
   simp only
   rw [if_pos hp, if_pos (by omega)]
  have f1 : Fit .i32 (k : Int) := fit32 (by omega) (by omega)
  have f2 : Fit .i32 (97 + (k : Int)) := fit32 (by omega) (by omega)
  by_cases h1 : (w.get! i).toNat < 97
  ·refine ⟨H.set p (.iter w (i + (Utf8.decode w i).2)), .tuple #[], ?_⟩
   have hf : okFrom k w (d + 1) i = false := by simp [okFrom]; omega
   rw [hf, if_neg (by simp)]
   refine lp_last (f44_L0_0 hn ?_)
   rw [dec_low w i (by omega)]
   show ((w.get! i).toNat : Int) < 97
   omega
  ·by_cases h2 : (w.get! i).toNat < 97 + k
   ·have hd := dec_low w i (by omega)
    rw [hd] at hn
    have step := f44_L0_2 (prot := prot) hn (by omega) f1 f2 (by omega)
    obtain ⟨H', v, ih⟩ := loop44 hk1 hk w H0 prot p hp d (i + 1) _ (by omega) (List.getElem?_set_self (List.getElem?_eq_some_iff.1 hH).1)
    refine ⟨H', v, lp_next step ?_⟩
    have hf : okFrom k w (d + 1) i = okFrom k w d (i + 1) := by
     have : decide (97 ≤ (w.get! i).toNat ∧ (w.get! i).toNat < 97 + k) = true := by simp; omega
     simp only [okFrom, this, Bool.true_and]
    rw [hf]
    exact ih
   ·have hbig : (Utf8.decode w i).1 ≥ 97 + k := by
     by_cases h3 : (w.get! i).toNat < 128
     ·rw [dec_low w i h3]; show (w.get! i).toNat ≥ 97 + k; omega
     ·have := dec_high w i h3; omega
    refine ⟨H.set p (.iter w (i + (Utf8.decode w i).2)), .tuple #[], ?_⟩
    have hf : okFrom k w (d + 1) i = false := by simp [okFrom]; omega
    rw [hf, if_neg (by simp)]
    exact lp_last (f44_L0_1 hn (by omega) f1 f2 (by omega))

/-- What Check answers. -/
def chkW (k : Int) (w : ByteArray) : Int := if k < 1 ∨ k > 8 then 20 else if okW k.toNat w then 0 else 21

theorem c44 (k : Int) (w : ByteArray) (prot : Nat) (H : AHeap) : callInf cfg 44 [.int .i64 k, .string w] prot H = some (.int .i64 (chkW k w), H) := by
 unfold chkW
 by_cases h1 : k < 1
 ·rw [if_pos (.inl h1)]; exact f44_F_0 h1
 ·by_cases h2 : k > 8
  ·rw [if_pos (.inr h2)]; exact f44_F_1 h1 h2
  ·rw [if_neg (by omega)]
   obtain ⟨n, rfl⟩ : ∃ n : Nat, k = n := ⟨k.toNat, by omega⟩
   obtain ⟨H', v, h⟩ := loop44 (k := n) (by omega) (by omega) w H prot H.length (Nat.le_refl _) w.size 0 (H ++ [.iter w 0]) (by omega) append_get.1
   rw [Int.toNat_natCast]
   unfold okW
   cases hok : okFrom n w w.size 0 with
   | true =>
    rw [hok] at h
    exact f44_F_2 h1 h2 h
   | false =>
    rw [hok] at h
    exact f44_F_3 h1 h2 h

end Go.Proofs.Ythjkodbinkiifaa.Am23
set_option linter.unusedVariables false
open Go Go.Proofs.Ythjkodbinkiifaa.Am
namespace Go.Proofs.Ythjkodbinkiifaa.Am23
end Go.Proofs.Ythjkodbinkiifaa.Am23
set_option linter.unusedVariables false
open Go Go.Proofs.Ythjkodbinkiifaa.Am
namespace Go.Proofs.Ythjkodbinkiifaa.Am23
end Go.Proofs.Ythjkodbinkiifaa.Am23
set_option linter.unusedVariables false
open Go Go.Proofs.Ythjkodbinkiifaa.Am
namespace Go.Proofs.Ythjkodbinkiifaa.Am23
end Go.Proofs.Ythjkodbinkiifaa.Am23
set_option linter.unusedVariables false
open Go Go.Proofs.Ythjkodbinkiifaa.Am
namespace Go.Proofs.Ythjkodbinkiifaa.Am23
end Go.Proofs.Ythjkodbinkiifaa.Am23
namespace Go.Proofs.Ythjkodbinkiifaa.Am23
open Go Go.Proofs.Ythjkodbinkiifaa.Am

theorem lw_get {l : List Nat} {i : Nat} (hi : i < l.length) (hl : l[i] < 100) : ((lw l).get! i).toNat = 97 + l[i] := by
 show ((lw l).data[i]!).toNat = _
 unfold lw bstr
 have : ((l.map (97 + ·)).map fun n => UInt8.ofNat n).toArray[i]! = UInt8.ofNat (97 + l[i]) := by
  rw [getElem!_pos _ _ (by simpa using hi)]
  simp
 rw [this, UInt8.toNat_ofNat']
 omega
end Go.Proofs.Ythjkodbinkiifaa.Am23
set_option linter.unusedVariables false
open Go Go.Proofs.Ythjkodbinkiifaa.Am
namespace Go.Proofs.Ythjkodbinkiifaa.Am23
end Go.Proofs.Ythjkodbinkiifaa.Am23
set_option linter.unusedVariables false
open Go Go.Proofs.Ythjkodbinkiifaa.Am
namespace Go.Proofs.Ythjkodbinkiifaa.Am23
end Go.Proofs.Ythjkodbinkiifaa.Am23
set_option linter.unusedVariables false
open Go Go.Proofs.Ythjkodbinkiifaa.Am
namespace Go.Proofs.Ythjkodbinkiifaa.Am23
end Go.Proofs.Ythjkodbinkiifaa.Am23
