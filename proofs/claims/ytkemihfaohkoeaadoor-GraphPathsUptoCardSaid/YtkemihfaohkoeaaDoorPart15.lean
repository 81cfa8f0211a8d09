/- A part of the proof of a given statement: Law11d_P. No condition. -/
import Derived.Test.YtkemihfaohkoeaaDoorPart14
namespace Go.Proofs.YtkemihfaohkoeaaDoor.Am11d
open Go Go.Proofs.YtkemihfaohkoeaaDoor.Am
/-! GraphPaths -/
def FoundP (G : List (List Int)) (f t : Int) : Prop := ∃ a b : Nat, f = a ∧ t = b ∧ a < G.length ∧ b < G.length ∧ 0 < dt G b a
theorem cPathN {G : List (List Int)} (hs : Short G) (hE : lens G ≤ 1048576) {f t : Int} (h : ¬ FoundP G f t ∨ chk G ≠ 0) : ∃ e : Int, ∀ {vG : Value} (prot : Nat) {H : AHeap}, Gr H vG G →
    callInf cfg 6 [vG, .int .i64 f, .int .i64 t] prot H = some (.tuple #[.slice none 0 0, .bool false, .int .i64 e], H) ∧
    callInf cfg 8 [vG, .int .i64 f, .int .i64 t] prot H = some (.tuple #[.slice none 0 0, .bool false, .int .i64 e], H) := by
  by_cases hc : chk G = 0
  · have hG := good_of hs hc
    have h5 := hG.1
    have e21 : ((0 : Int) != 0) = false := by decide
    by_cases r1 : f < 0
    · refine ⟨3, fun prot H hg => ?_⟩
      have h22 := c25 hs H.length hg
      have h27 := c26 hs H.length hg
      rw [hc] at h22 h27
      obtain ⟨_, _, rfl⟩ := hg.len
      exact ⟨f6_F_1 h22 e21 r1, f8_F_1 h27 e21 r1⟩
    · by_cases r2 : f ≥ (G.length : Int)
      · refine ⟨3, fun prot H hg => ?_⟩
        have h22 := c25 hs H.length hg
        have h27 := c26 hs H.length hg
        rw [hc] at h22 h27
        obtain ⟨_, _, rfl⟩ := hg.len
        exact ⟨f6_F_2 h22 e21 r1 r2, f8_F_2 h27 e21 r1 r2⟩
      · by_cases r3 : t < 0
        · refine ⟨3, fun prot H hg => ?_⟩
          have h22 := c25 hs H.length hg
          have h27 := c26 hs H.length hg
          rw [hc] at h22 h27
          obtain ⟨_, _, rfl⟩ := hg.len
          exact ⟨f6_F_3 h22 e21 r1 r2 r3, f8_F_3 h27 e21 r1 r2 r3⟩
        · by_cases r4 : t ≥ (G.length : Int)
          · refine ⟨3, fun prot H hg => ?_⟩
            have h22 := c25 hs H.length hg
            have h27 := c26 hs H.length hg
            rw [hc] at h22 h27
            obtain ⟨_, _, rfl⟩ := hg.len
            exact ⟨f6_F_4 h22 e21 r1 r2 r3 r4, f8_F_4 h27 e21 r1 r2 r3 r4⟩
          · obtain ⟨a, rfl⟩ : ∃ a : Nat, f = a := ⟨f.toNat, by omega⟩
            obtain ⟨b, rfl⟩ : ∃ b : Nat, t = b := ⟨t.toNat, by omega⟩
            have ha : a < G.length := by omega
            have hb : b < G.length := by omega
            have hd : dt G b a = 0 := by
              rcases h with h | h
              · rcases Nat.eq_zero_or_pos (dt G b a) with h0 | h0
                · exact h0
                · exact absurd ⟨a, b, rfl, rfl, ha, hb, h0⟩ h
              · exact absurd hc h
            refine ⟨0, fun prot H hg => ⟨?_, ?_⟩⟩
            · rcases c21 hG hE prot hg hc ha hb with ⟨_, h1⟩ | ⟨h1, _⟩
              · exact h1
              · omega
            · rcases cPathR hG hE prot hg hc ha hb (fun u hu => by
                rcases c21 hG hE prot hg hc hu hb with ⟨h1, _⟩ | ⟨_, h1, _⟩ <;> omega) with ⟨_, h1⟩ | ⟨h1, _⟩
              · exact h1
              · omega
  · refine ⟨chk G, fun prot H hg => ?_⟩
    have h22 := c25 hs H.length hg
    have h27 := c26 hs H.length hg
    obtain ⟨_, _, rfl⟩ := hg.len
    exact ⟨f6_F_0 h22 (by simp [hc]), f8_F_0 h27 (by simp [hc])⟩
theorem law3 {G : List (List Int)} {x0 : Value} (f t : Int) (hs : Short8 G) (hE : lens G ≤ 1048576) (prot : Nat) (H : AHeap) (hg : Gr H x0 G) : callInf cfg 3 [x0, .int .i64 f, .int .i64 t] prot H = some (.bool true, H) := by
  obtain ⟨x, H1, a1, a2, a3⟩ := c9 hs H.length hg
  have hss := hs.short
  by_cases h : FoundP G f t ∧ chk G = 0
  · obtain ⟨⟨a, b, rfl, rfl, ha, hb, hd⟩, hc⟩ := h
    have hG := good_of hss hc
    have h5 := hG.1
    obtain ⟨l, H2, b1, b2, b3, hbd⟩ : ∃ x' H', callInf cfg 6 [x, .int .i64 a, .int .i64 b] H.length H1 = some (.tuple #[x', .bool true, .int .i64 0], H') ∧ OwnE H' 3 x' (dt G b a) (il (nl (pth G b (dt G b a - 1) a))) H1.length ∧ Stay none H1 H' ∧ dt G b a ≤ G.length := by
      rcases c21 hG hE H.length a2.gr hc ha hb with ⟨h1, _⟩ | ⟨_, h0, x', H', h1, h2, h3⟩
      · omega
      · exact ⟨x', H', h1, h2, h3, h0⟩
    have s2 := a3.trans b3
    have d1 := cDepth hss H.length (a2.stay b3).gr
    obtain ⟨q, H3, e1, e2, e3⟩ : ∃ x' H', callInf cfg 8 [x0, .int .i64 a, .int .i64 b] H.length H2 = some (.tuple #[x', .bool true, .int .i64 0], H') ∧ OwnE H' 3 x' (dt G b a) (il (nl (pth G b (dt G b a - 1) a))) H2.length ∧ Stay none H2 H' := by
      rcases cPathR hG hE H.length (hg.stay s2) hc ha hb (fun u hu => by
          rcases c21 hG hE H.length hg hc hu hb with ⟨h1, _⟩ | ⟨_, h1, _⟩ <;> omega) with ⟨h1, _⟩ | ⟨_, h1⟩
      · omega
      · exact h1
    have s3 := s2.trans e3
    have d2 := cDepthR hss H.length (hg.stay s3)
    have hlen := pth_len (G := G) (t := b) (dt G b a - 1) a
    have hl2 : (nl (pth G b (dt G b a - 1) a)).length = dt G b a := by simp [nl, hlen]; omega
    have h10 := c27 (l := nl (pth G b (dt G b a - 1) a)) (m := nl (pth G b (dt G b a - 1) a)) (by omega) H.length (by rw [hl2]; exact (b2.stay e3).rd) (by rw [hl2]; exact e2.rd)
    rw [decide_eq_true rfl] at h10
    have h12 := c14 hs H.length (a2.stay (b3.trans e3)) (hg.stay s3)
    obtain ⟨o, r1, r2⟩ := (b2.stay e3).rx
    have l1 := a3.1
    obtain ⟨H4, h13⟩ := one_apart (prot := H.length) (fun a ha => by have := r2 a ha; omega) s3.1 (by omega) r1
    have hk := cKnows H.length H4
    obtain ⟨_, _, rfl⟩ := a2.gr.len
    obtain ⟨_, _, rfl⟩ := b2.rd.len
    obtain ⟨_, _, rfl⟩ := e2.rd.len
    obtain ⟨_, _, rfl⟩ := hg.len
    exact f3_F_0 a1 b1 d1 e1 d2 h10 rfl rfl f11_F_0 (by simp) (by simp) f11_F_0 (by simp) h12 rfl h13 rfl hk
  · have h' : ¬ FoundP G f t ∨ chk G ≠ 0 := by
      by_cases hc : chk G = 0
      · exact .inl (fun hf => h ⟨hf, hc⟩)
      · exact .inr hc
    obtain ⟨e, hall⟩ := cPathN hss hE h'
    obtain ⟨b1, _⟩ := hall H.length a2.gr
    have d1 := cDepth hss H.length a2.gr
    obtain ⟨_, e1⟩ := hall H.length (hg.stay a3)
    have d2 := cDepthR hss H.length (hg.stay a3)
    have hnil : Rd H1 3 1 (.slice none 0 0) ([] : List Int).length (il []) := ⟨rfl, .inl ⟨rfl, .inl rfl⟩⟩
    have h10 := c27 (by simp) H.length hnil hnil
    rw [decide_eq_true rfl] at h10
    have h12 := c14 hs H.length a2 (hg.stay a3)
    obtain ⟨H4, h13⟩ := one_apart (H := H1) (l := .slice none 0 0) (n := 0) (o := none) (V := []) (prot := H.length) (fun a ha => by cases ha) a3.1 (by omega) ⟨rfl, rfl, .inl rfl⟩
    have hk := cKnows H.length H4
    obtain ⟨_, _, rfl⟩ := a2.gr.len
    obtain ⟨_, _, rfl⟩ := hg.len
    exact f3_F_0 a1 b1 d1 e1 d2 h10 rfl rfl f11_F_0 (by simp) (by simp) f11_F_0 (by simp) h12 rfl h13 rfl hk
end Go.Proofs.YtkemihfaohkoeaaDoor.Am11d
