/- A part of the proof of a given statement: Sp23_Ord, P23_67, P23_59, Sp23_C67, P23_42, P23_19, P23_20, Sp23_C42, Sp23_C20, AmKey, AmStrc, P23_5, Law23_5, P23_22, P23_6, Law23_6. No condition. -/
import Derived.Test.YthjkodbinkiifaaPart12
import Derived.Lib.Bytealg
import Derived.Laws.Strings
namespace Go.Proofs.Ythjkodbinkiifaa.Am23
open Go Go.Proofs.Ythjkodbinkiifaa.Am

def ordV (u v : ByteArray) : Int := if u.size = v.size then Extern.BytealgCompare.cmp u v else if u.size < v.size then -1 else 1
end Go.Proofs.Ythjkodbinkiifaa.Am23
set_option linter.unusedVariables false
open Go Go.Proofs.Ythjkodbinkiifaa.Am
namespace Go.Proofs.Ythjkodbinkiifaa.Am23
end Go.Proofs.Ythjkodbinkiifaa.Am23
set_option linter.unusedVariables false
open Go Go.Proofs.Ythjkodbinkiifaa.Am
namespace Go.Proofs.Ythjkodbinkiifaa.Am23
end Go.Proofs.Ythjkodbinkiifaa.Am23
namespace Go.Proofs.Ythjkodbinkiifaa.Am23
open Go Go.Proofs.Ythjkodbinkiifaa.Am

def wv (k : Nat) (xs : List Int) (n a : Nat) : Option Nat → ByteArray
  | none => ByteArray.empty
  | some t => wd0 k xs n a t

end Go.Proofs.Ythjkodbinkiifaa.Am23
set_option linter.unusedVariables false
open Go Go.Proofs.Ythjkodbinkiifaa.Am
namespace Go.Proofs.Ythjkodbinkiifaa.Am23
end Go.Proofs.Ythjkodbinkiifaa.Am23
set_option linter.unusedVariables false
open Go Go.Proofs.Ythjkodbinkiifaa.Am
namespace Go.Proofs.Ythjkodbinkiifaa.Am23
end Go.Proofs.Ythjkodbinkiifaa.Am23
set_option linter.unusedVariables false
open Go Go.Proofs.Ythjkodbinkiifaa.Am
namespace Go.Proofs.Ythjkodbinkiifaa.Am23
end Go.Proofs.Ythjkodbinkiifaa.Am23
namespace Go.Proofs.Ythjkodbinkiifaa.Am23
open Go Go.Proofs.Ythjkodbinkiifaa.Am

end Go.Proofs.Ythjkodbinkiifaa.Am23
namespace Go.Proofs.Ythjkodbinkiifaa.Am23
open Go Go.Proofs.Ythjkodbinkiifaa.Am

end Go.Proofs.Ythjkodbinkiifaa.Am23
namespace Go.Proofs.Ythjkodbinkiifaa.Am
open Go

theorem apure_pure {α : Type} (P : Program) (a : α) : apure P (pure a : Sem α) = some a := rfl
theorem apure_underlying {P : Program} {t : TypeId} {d : TypeDesc} (h : P.underlying t = some d) : apure P (underlying t) = some d := by
  unfold underlying
  rw [apure_bind]
  show (some P).bind _ = _
  rw [Option.bind_some, h]
  rfl

def runFold (P : Program) {α β : Type} (f : α → β → Sem (ForInStep β)) : List α → β → Option β
  | [], b => some b
  | a :: l, b => (apure P (f a b)).bind fun r =>
    match r with
    | .done b => some b
    | .yield b => runFold P f l b
theorem apure_forIn {α β : Type} (P : Program) (f : α → β → Sem (ForInStep β)) : ∀ (l : List α) (b : β), apure P (forIn l b f) = runFold P f l b
  | [], b => by simp [apure_pure, runFold]
  | a :: l, b => by
    rw [List.forIn_cons, apure_bind]
    simp only [runFold]
    congr 1
    funext r
    cases r with
    | done b => rfl
    | yield b => exact apure_forIn P f l b

def stepEq (P : Program) (e : TypeId) (q : IntKind) (d : Nat) (xs ys : List Int) (i : Nat) : Sem (ForInStep (Option Bool × Unit)) := do
  let a ← part e (xs.map (Value.int q)).toArray (i * 1)
  let b ← part e (ys.map (Value.int q)).toArray (i * 1)
  let r ← Op.equalIn (d + 1) e a b
  if (!r) = true then pure (ForInStep.done (some false, ())) else pure (ForInStep.yield (none, ()))

/-! ### Arrays of whole numbers as keys -/
def keyV (q : IntKind) (xs : List Int) : Value := .agg (xs.map (Value.int q)).toArray

def stepCk (emp : Bool) (e : TypeId) (q : IntKind) (d : Nat) (xs : List Int) (i : Nat) : Sem (ForInStep Unit) := do
  let n ← sizeOf e
  let a ← part e (xs.map (Value.int q)).toArray (i * n)
  Instr.checkKey emp (d + 1) e a
  pure (ForInStep.yield ())
def kidx (xs : List Int) (ks : List (List Int)) : Option Nat := ks.findIdx? fun y => decide (xs = y)

end Go.Proofs.Ythjkodbinkiifaa.Am
namespace Go.Proofs.Ythjkodbinkiifaa.Am
open Go

theorem apure_str {P : Program} {e : TypeId} (he : P.underlying e = some .string) (d : Nat) (a b : ByteArray) : apure P (Op.equalIn (d + 1) e (.string a) (.string b)) = some (a == b) := by
  simp only [Op.equalIn, apure_bind, apure_underlying he, Option.bind_some]
  rfl
theorem apure_partS {P : Program} {e : TypeId} (he : P.underlying e = some .string) (xs : Array Value) {i : Nat} {a : Value} (ha : xs[i]? = some a) : apure P (part e xs i) = some a := by
  have hag : apure P (isAgg e) = some false := by
    unfold isAgg
    simp only [apure_bind, apure_underlying he, Option.bind_some]
    rfl
  unfold part
  simp only [apure_bind, hag, Option.bind_some]
  simp [ha, apure_pure]

def stepF (d : Nat) (xs ys : Array Value) (f : Field) : Sem (ForInStep (Option Bool × Unit)) :=
  if f.name ≠ "_" then do
    let a ← part f.type xs f.offset
    let b ← part f.type ys f.offset
    let r ← Op.equalIn (d + 1) f.type a b
    if (!r) = true then pure (ForInStep.done (some false, ())) else pure (ForInStep.yield (none, ()))
  else pure (ForInStep.yield (none, ()))
theorem apure_stepF {P : Program} {f : Field} (hf : f.name ≠ "_") (he : P.underlying f.type = some .string) (d : Nat) (xs ys : Array Value) {a b : ByteArray} (ha : xs[f.offset]? = some (.string a)) (hb : ys[f.offset]? = some (.string b)) :
    apure P (stepF d xs ys f) = some (if (a == b) = true then .yield (none, ()) else .done (some false, ())) := by
  unfold stepF
  rw [if_pos hf]
  simp only [apure_bind, apure_partS he xs ha, apure_partS he ys hb, apure_str he, Option.bind_some]
  cases (a == b)
  · simp [apure_pure]
  · simp [apure_pure]

theorem apure_equal_str3 {P : Program} {t : TypeId} {f0 f1 f2 : Field} (hu : P.underlying t = some (.struct #[f0, f1, f2])) (hst : P.stoodInHeld t = false)
    (n0 : f0.name ≠ "_") (n1 : f1.name ≠ "_") (n2 : f2.name ≠ "_") (e0 : P.underlying f0.type = some .string) (e1 : P.underlying f1.type = some .string) (e2 : P.underlying f2.type = some .string) (o0 : f0.offset = 0) (o1 : f1.offset = 1) (o2 : f2.offset = 2)
    (d : Nat) (a0 a1 a2 b0 b1 b2 : ByteArray) :
    apure P (Op.equalIn (d + 2) t (.agg #[.string a0, .string a1, .string a2]) (.agg #[.string b0, .string b1, .string b2])) = some ((a0 == b0) && ((a1 == b1) && (a2 == b2))) := by
  have s0 := apure_stepF n0 e0 d #[.string a0, .string a1, .string a2] #[.string b0, .string b1, .string b2] (a := a0) (b := b0) (by rw [o0]; rfl) (by rw [o0]; rfl)
  have s1 := apure_stepF n1 e1 d #[.string a0, .string a1, .string a2] #[.string b0, .string b1, .string b2] (a := a1) (b := b1) (by rw [o1]; rfl) (by rw [o1]; rfl)
  have s2 := apure_stepF n2 e2 d #[.string a0, .string a1, .string a2] #[.string b0, .string b1, .string b2] (a := a2) (b := b2) (by rw [o2]; rfl) (by rw [o2]; rfl)
  have hr : runFold P (fun f (_ : Option Bool × Unit) => stepF d #[.string a0, .string a1, .string a2] #[.string b0, .string b1, .string b2] f) [f0, f1, f2] (none, ()) = some (if ((a0 == b0) && ((a1 == b1) && (a2 == b2))) = true then (none, ()) else (some false, ())) := by
    simp only [runFold]
    rw [s0, Option.bind_some]
    cases (a0 == b0)
    · simp
    · simp only [if_true, Bool.true_and]
      rw [s1, Option.bind_some]
      cases (a1 == b1)
      · simp
      · simp only [if_true, Bool.true_and]
        rw [s2, Option.bind_some]
        cases (a2 == b2) <;> simp
  have hr2 := (apure_forIn P (fun f (_ : Option Bool × Unit) => stepF d #[.string a0, .string a1, .string a2] #[.string b0, .string b1, .string b2] f) [f0, f1, f2] (none, ())).trans hr
  have hp : apure P (program : Sem Program) = some P := rfl
  unfold Op.equalIn
  simp only [apure_bind, apure_underlying hu, hp, hst, Option.bind_some]
  rw [if_neg (by simp), ← Array.forIn_toList, apure_bind]
  have h3 : apure P (forIn (#[f0, f1, f2] : Array Field).toList ((none : Option Bool), ()) fun (f : Field) (__s : Option Bool × Unit) => (if f.name ≠ "_" then do
                let a ← part f.type #[Value.string a0, Value.string a1, Value.string a2] f.offset
                let b ← part f.type #[Value.string b0, Value.string b1, Value.string b2] f.offset
                let r ← Op.equalIn (d + 1) f.type a b
                if (!r) = true then pure (ForInStep.done (some false, ()))
                  else pure (ForInStep.yield (none, ()))
              else pure (ForInStep.yield (none, ())) : Sem (ForInStep (Option Bool × Unit)))) = _ := hr2
  rw [h3, Option.bind_some]
  cases ((a0 == b0) && ((a1 == b1) && (a2 == b2))) <;> simp [apure_pure]
end Go.Proofs.Ythjkodbinkiifaa.Am
set_option linter.unusedVariables false
open Go Go.Proofs.Ythjkodbinkiifaa.Am
namespace Go.Proofs.Ythjkodbinkiifaa.Am23
end Go.Proofs.Ythjkodbinkiifaa.Am23
namespace Go.Proofs.Ythjkodbinkiifaa.Am23
open Go Go.Proofs.Ythjkodbinkiifaa.Am

theorem ba_beq (a : ByteArray) : (a == a) = true := by
  show (a.data == a.data) = true
  simp
theorem pv_eq (v : ByteArray × ByteArray × ByteArray) : abin cfg.P .eql 29 (pv v) (pv v) = some (.bool true) := by
  obtain ⟨f0, f1, f2, hu, hst, n0, n1, n2, e0, e1, e2, o0, o1, o2⟩ : ∃ f0 f1 f2 : Field, cfg.P.underlying 29 = some (.struct #[f0, f1, f2]) ∧ cfg.P.stoodInHeld 29 = false ∧ f0.name ≠ "_" ∧ f1.name ≠ "_" ∧ f2.name ≠ "_" ∧ cfg.P.underlying f0.type = some .string ∧ cfg.P.underlying f1.type = some .string ∧ cfg.P.underlying f2.type = some .string ∧ f0.offset = 0 ∧ f1.offset = 1 ∧ f2.offset = 2 :=
    by
      refine ⟨_, _, _, Proofs.Try.underlying29, ?_, ?_, ?_, ?_, ?_, ?_, ?_, ?_, ?_, ?_⟩
      · kernel_rfl
      · decide
      · decide
      · decide
      · exact Proofs.Try.underlying9
      · exact Proofs.Try.underlying9
      · exact Proofs.Try.underlying9
      · rfl
      · rfl
      · rfl
  have h := apure_equal_str3 hu hst n0 n1 n2 e0 e1 e2 o0 o1 o2 9998 v.1 v.2.1 v.2.2 v.1 v.2.1 v.2.2
  have hg : cfg.P.eqGuardType cfg.P.depth 29 = false := by kernel_rfl
  have ha : aeq cfg.P 29 (pv v) (pv v) = some true := by
    unfold aeq
    rw [hu]
    simp only
    rw [hg]
    have hp : plain1 (pv v) = true := rfl
    rw [hp]
    simp only [Bool.and_self, Bool.not_false, if_true]
    have : apure cfg.P (Op.equal 29 (pv v) (pv v)) = _ := h
    rw [this, ba_beq, ba_beq, ba_beq]
    rfl
  unfold abin
  simp only
  rw [ha]
  rfl
theorem pump_new {H : AHeap} {prot : Nat} (hp : prot ≤ H.length) (v : ByteArray × ByteArray × ByteArray) :
    ∃ H', setCells (H ++ [AObj.cells [.string ByteArray.empty, .string ByteArray.empty, .string ByteArray.empty] 29 3 .var]) prot H.length 3 0 [.string v.1, .string v.2.1, .string v.2.2] = some H' ∧ H'[H.length]? = some (.cells [.string v.1, .string v.2.1, .string v.2.2] 29 3 .var) ∧ Stay none H H' := by
  obtain ⟨H', u1, u2, u3, u4⟩ := set3s (append_get.1 : (H ++ [AObj.cells [.string ByteArray.empty, .string ByteArray.empty, .string ByteArray.empty] 29 3 .var])[H.length]? = _) hp (x := .string v.1) (y := .string v.2.1) (z := .string v.2.2) rfl
  exact ⟨H', u1, u4, (Stay.app none H _).over u3 (fun id h => by have := Option.some.inj h; omega)⟩

end Go.Proofs.Ythjkodbinkiifaa.Am23
set_option linter.unusedVariables false
open Go Go.Proofs.Ythjkodbinkiifaa.Am
namespace Go.Proofs.Ythjkodbinkiifaa.Am23
theorem f22_F_0 {x0a : Int} {x0ba : Option Addr} {x0bn x0bc : Nat} {x0ca : Option Addr} {x0cn x0cc : Nat} {x1a x1b x1c : ByteArray} {x2 : Int} {x3 : Bool} {H : AHeap} {prot : Nat} {x14 : ByteArray} {z3 : Bool} {z4p z4o z4l z5p z5o z5l : Nat} {z9 : ByteArray} {H1 : AHeap} {x25a : Int} {x25ba : Option Addr} {x25bn x25bc : Nat} {x25ca : Option Addr} {x25cn x25cc : Nat} {x28 : ByteArray} {x30a : Bool} {x30b x34 : Int} {x38 : ByteArray} (h1 : [Value.int .i64 x0a, Value.slice x0ba x0bn x0bc, Value.slice x0ca x0cn x0cc].all isCell = true) (h2 : [Value.string x1a, Value.string x1b, Value.string x1c].all isCell = true) (h3 : getCells (H ++ [vo [Value.int .i64 x0a, Value.slice x0ba x0bn x0bc, Value.slice x0ca x0cn x0cc] 25] ++ [vo [Value.string x1a, Value.string x1b, Value.string x1c] 29]) (List.length (H ++ [vo [Value.int .i64 x0a, Value.slice x0ba x0bn x0bc, Value.slice x0ca x0cn x0cc] 25])) [Value.string x1a, Value.string x1b, Value.string x1c].length (0 + 0) 1 = some [Value.string x14]) (h4 : lpInf (lpOf cfg a22 0 prot H) ([Value.int .i64 x2, Value.bool x3, Value.pointer (some ⟨List.length H, 0, some [Value.int .i64 x0a, Value.slice x0ba x0bn x0bc, Value.slice x0ca x0cn x0cc].length⟩), Value.pointer (some ⟨List.length (H ++ [vo [Value.int .i64 x0a, Value.slice x0ba x0bn x0bc, Value.slice x0ca x0cn x0cc] 25]), 0, some [Value.string x1a, Value.string x1b, Value.string x1c].length⟩), Value.string x14, Value.int .i64 0], H ++ [vo [Value.int .i64 x0a, Value.slice x0ba x0bn x0bc, Value.slice x0ca x0cn x0cc] 25] ++ [vo [Value.string x1a, Value.string x1b, Value.string x1c] 29]) = some (Ex.exit 0, [Value.bool z3, Value.pointer (some ⟨z4p, z4o, some z4l⟩), Value.pointer (some ⟨z5p, z5o, some z5l⟩), Value.string z9], H1)) (h5 : getCells H1 z4p z4l z4o 3 = some [Value.int .i64 x25a, Value.slice x25ba x25bn x25bc, Value.slice x25ca x25cn x25cc]) (h6 : getCells H1 z5p z5l (z5o + 2) 1 = some [Value.string x28]) (h7 : z9.size + x28.size ≤ 9223372036854775807) (h8 : callInf cfg 27 [Value.agg { toList := [Value.int .i64 x25a, Value.slice x25ba x25bn x25bc, Value.slice x25ca x25cn x25cc] }, Value.string (z9 ++ x28)] (List.length H) H1 = some (Value.tuple { toList := [Value.bool x30a, Value.int .i64 x30b] }, H1)) (h9 : callInf cfg 15 [Value.int .i64 x30b] (List.length H) H1 = some (Value.int .i64 x34, H1)) (h10 : (x34 == 0) = true) (h11 : getCells H1 z5p z5l (z5o + 1) 1 = some [Value.string x38]) (h12 : (!x38.toList == []) = true) : callInf cfg 22 [.agg #[.int .i64 x0a, .slice x0ba x0bn x0bc, .slice x0ca x0cn x0cc], .agg #[.string x1a, .string x1b, .string x1c], .int .i64 x2, .bool x3] prot H = some (Value.bool (x30a == z3), H) :=
  fn_of2 a22 [.e, .e, .v (.string x14), .lo (.exit 0, [.bool z3, .pointer (some ⟨z4p, z4o, some z4l⟩), .pointer (some ⟨z5p, z5o, some z5l⟩), .string z9], H1), .v (.agg #[.int .i64 x25a, .slice x25ba x25bn x25bc, .slice x25ca x25cn x25cc]), .v (.string x28), .e, .v (.tuple #[.bool x30a, .int .i64 x30b]), .v (.int .i64 x34), .e, .b true, .b true, .v (.string x38), .b true, .e, .b true, .b true, .b true, .b true, .e, .b true] (ai h1 (ai h2 (ai h3 (ai h4 (ai h5 (ai h6 (ai h7 (ai h8 (ai h9 (ai h10 (ai h10 (ai h11 (ai h10 (ai h10 (ai h12 (ai h12 (ai h12 (ai h12 (Eq.refl ((Value.bool (x30a == z3), H) : Value × AHeap)))))))))))))))))))) (by kernel_rfl) rfl
theorem f22_L0_0 {x2 : Int} {x3 : Bool} {x4p x4o x4l x5p x5o x5l : Nat} {x9 : ByteArray} {x10 : Int} {H0 : AHeap} {prot : Nat} {H : AHeap} {x22 : ByteArray} (h1 : x10 < x2) (h2 : getCells H x5p x5l (x5o + 1) 1 = some [Value.string x22]) (h3 : x9.size + x22.size ≤ 9223372036854775807) (h4 : Fit .i64 (x10 + 1)) : lpOf cfg a22 0 prot H0 ([.int .i64 x2, .bool x3, .pointer (some ⟨x4p, x4o, some x4l⟩), .pointer (some ⟨x5p, x5o, some x5l⟩), .string x9, .int .i64 x10], H) = some (Sum.inl ([Value.int .i64 x2, Value.bool x3, Value.pointer (some ⟨x4p, x4o, some x4l⟩), Value.pointer (some ⟨x5p, x5o, some x5l⟩), Value.string (x9 ++ x22), Value.int .i64 (x10 + 1)], H)) :=
  lp_of2 [.e, .b true, .v (.string x22), .e, .e] (ai (decide_eq_true h1) (ai h2 (ai h3 (ai h4 (Eq.refl (Sum.inl ([Value.int .i64 x2, Value.bool x3, Value.pointer (some ⟨x4p, x4o, some x4l⟩), Value.pointer (some ⟨x5p, x5o, some x5l⟩), Value.string (x9 ++ x22), Value.int .i64 (x10 + 1)], H) : LS ⊕ LO)))))) (by kernel_rfl)
theorem f22_L0_1 {x2 : Int} {x3 : Bool} {x4p x4o x4l x5p x5o x5l : Nat} {x9 : ByteArray} {x10 : Int} {H0 : AHeap} {prot : Nat} {H : AHeap} (h1 : ¬(x10 < x2)) : lpOf cfg a22 0 prot H0 ([.int .i64 x2, .bool x3, .pointer (some ⟨x4p, x4o, some x4l⟩), .pointer (some ⟨x5p, x5o, some x5l⟩), .string x9, .int .i64 x10], H) = some (Sum.inr (Ex.exit 0, [Value.bool x3, Value.pointer (some ⟨x4p, x4o, some x4l⟩), Value.pointer (some ⟨x5p, x5o, some x5l⟩), Value.string x9], H)) :=
  lp_of2 [.e, .b false] (ai (decide_eq_false h1) (Eq.refl (Sum.inr (Ex.exit 0, [Value.bool x3, Value.pointer (some ⟨x4p, x4o, some x4l⟩), Value.pointer (some ⟨x5p, x5o, some x5l⟩), Value.string x9], H) : LS ⊕ LO))) (by kernel_rfl)
end Go.Proofs.Ythjkodbinkiifaa.Am23
set_option linter.unusedVariables false
open Go Go.Proofs.Ythjkodbinkiifaa.Am
namespace Go.Proofs.Ythjkodbinkiifaa.Am23
theorem f6_F_3 {x0a : Int} {x0ba : Option Addr} {x0bn x0bc : Nat} {x0ca : Option Addr} {x0cn x0cc : Nat} {x1 : Int} {H : AHeap} {prot : Nat} {x11a : Int} {x11ba : Option Addr} {x11bn x11bc : Nat} {x11ca : Option Addr} {x11cn x11cc : Nat} {x12 x15 : Bool} {x20a : Int} {x20ba : Option Addr} {x20bn x20bc : Nat} {x20ca : Option Addr} {x20cn x20cc : Nat} {x21a : Bool} {x21ba x21bb x21bc : ByteArray} {x21c : Int} {H1 : AHeap} {x26a : Int} {x26ba : Option Addr} {x26bn x26bc : Nat} {x26ca : Option Addr} {x26cn x26cc : Nat} {x27a : Bool} {x27ba x27bb x27bc : ByteArray} {x27c : Int} {H2 : AHeap} {x32 x34 : Int} {x46a x46b x46c : ByteArray} {x48 : Bool} {x73a : Int} {x73ba : Option Addr} {x73bn x73bc : Nat} {x73ca : Option Addr} {x73cn x73cc : Nat} {x74a x74b x74c : ByteArray} {x76 : Bool} (h1 : [Value.int .i64 x0a, Value.slice x0ba x0bn x0bc, Value.slice x0ca x0cn x0cc].all isCell = true) (h2 : getCells (H ++ [vo [Value.int .i64 x0a, Value.slice x0ba x0bn x0bc, Value.slice x0ca x0cn x0cc] 25]) (List.length H) [Value.int .i64 x0a, Value.slice x0ba x0bn x0bc, Value.slice x0ca x0cn x0cc].length 0 3 = some [Value.int .i64 x11a, Value.slice x11ba x11bn x11bc, Value.slice x11ca x11cn x11cc]) (h3 : callInf cfg 11 [Value.agg { toList := [Value.int .i64 x11a, Value.slice x11ba x11bn x11bc, Value.slice x11ca x11cn x11cc] }] (List.length H) (H ++ [vo [Value.int .i64 x0a, Value.slice x0ba x0bn x0bc, Value.slice x0ca x0cn x0cc] 25]) = some (Value.bool x12, H ++ [vo [Value.int .i64 x0a, Value.slice x0ba x0bn x0bc, Value.slice x0ca x0cn x0cc] 25])) (h4 : (!x12) = false) (h5 : callInf cfg 12 [] (List.length H) (H ++ [vo [Value.int .i64 x0a, Value.slice x0ba x0bn x0bc, Value.slice x0ca x0cn x0cc] 25]) = some (Value.bool x15, H ++ [vo [Value.int .i64 x0a, Value.slice x0ba x0bn x0bc, Value.slice x0ca x0cn x0cc] 25])) (h6 : (!x15) = false) (h7 : getCells (H ++ [vo [Value.int .i64 x0a, Value.slice x0ba x0bn x0bc, Value.slice x0ca x0cn x0cc] 25]) (List.length H) [Value.int .i64 x0a, Value.slice x0ba x0bn x0bc, Value.slice x0ca x0cn x0cc].length 0 3 = some [Value.int .i64 x20a, Value.slice x20ba x20bn x20bc, Value.slice x20ca x20cn x20cc]) (h8 : callInf cfg 13 [Value.agg { toList := [Value.int .i64 x20a, Value.slice x20ba x20bn x20bc, Value.slice x20ca x20cn x20cc] }] (List.length H) (H ++ [vo [Value.int .i64 x0a, Value.slice x0ba x0bn x0bc, Value.slice x0ca x0cn x0cc] 25]) = some (Value.tuple { toList := [Value.bool x21a, Value.agg { toList := [Value.string x21ba, Value.string x21bb, Value.string x21bc] }, Value.int .i64 x21c] }, H ++ [vo [Value.int .i64 x0a, Value.slice x0ba x0bn x0bc, Value.slice x0ca x0cn x0cc] 25])) (h9 : [Value.string x21ba, Value.string x21bb, Value.string x21bc].length = 3) (h10 : setCells (H ++ [vo [Value.int .i64 x0a, Value.slice x0ba x0bn x0bc, Value.slice x0ca x0cn x0cc] 25] ++ [vo [Value.string { data := { toList := [] } }, Value.string { data := { toList := [] } }, Value.string { data := { toList := [] } }] 29]) (List.length H) (List.length (H ++ [vo [Value.int .i64 x0a, Value.slice x0ba x0bn x0bc, Value.slice x0ca x0cn x0cc] 25])) [Value.string { data := { toList := [] } }, Value.string { data := { toList := [] } }, Value.string { data := { toList := [] } }].length 0 [Value.string x21ba, Value.string x21bb, Value.string x21bc] = some H1) (h11 : getCells H1 (List.length H) [Value.int .i64 x0a, Value.slice x0ba x0bn x0bc, Value.slice x0ca x0cn x0cc].length 0 3 = some [Value.int .i64 x26a, Value.slice x26ba x26bn x26bc, Value.slice x26ca x26cn x26cc]) (h12 : callInf cfg 18 [Value.agg { toList := [Value.int .i64 x26a, Value.slice x26ba x26bn x26bc, Value.slice x26ca x26cn x26cc] }] (List.length H) H1 = some (Value.tuple { toList := [Value.bool x27a, Value.agg { toList := [Value.string x27ba, Value.string x27bb, Value.string x27bc] }, Value.int .i64 x27c] }, H1)) (h13 : [Value.string x27ba, Value.string x27bb, Value.string x27bc].length = 3) (h14 : setCells (H1 ++ [vo [Value.string { data := { toList := [] } }, Value.string { data := { toList := [] } }, Value.string { data := { toList := [] } }] 29]) (List.length H) (List.length H1) [Value.string { data := { toList := [] } }, Value.string { data := { toList := [] } }, Value.string { data := { toList := [] } }].length 0 [Value.string x27ba, Value.string x27bb, Value.string x27bc] = some H2) (h15 : callInf cfg 15 [Value.int .i64 x21c] (List.length H) H2 = some (Value.int .i64 x32, H2)) (h16 : callInf cfg 15 [Value.int .i64 x27c] (List.length H) H2 = some (Value.int .i64 x34, H2)) (h17 : Fit .i64 (x32 + x34)) (h18 : (x32 + x34 != 0) = false) (h19 : x21a = true) (h20 : x27a = false) (h21 : getCells H2 (List.length (H ++ [vo [Value.int .i64 x0a, Value.slice x0ba x0bn x0bc, Value.slice x0ca x0cn x0cc] 25])) [Value.string { data := { toList := [] } }, Value.string { data := { toList := [] } }, Value.string { data := { toList := [] } }].length 0 3 = some [Value.string x46a, Value.string x46b, Value.string x46c]) (h22 : abin cfg.P BinOp.neq 29 (Value.agg { toList := [Value.string x46a, Value.string x46b, Value.string x46c] }) (Value.agg { toList := [Value.string { data := { toList := [] } }, Value.string { data := { toList := [] } }, Value.string { data := { toList := [] } }] }) = some (Value.bool x48)) (h23 : x48 = false) (h24 : Fit .i64 (x1.tmod 100 + 100)) (h25 : getCells H2 (List.length H) [Value.int .i64 x0a, Value.slice x0ba x0bn x0bc, Value.slice x0ca x0cn x0cc].length 0 3 = some [Value.int .i64 x73a, Value.slice x73ba x73bn x73bc, Value.slice x73ca x73cn x73cc]) (h26 : getCells H2 (List.length H1) [Value.string { data := { toList := [] } }, Value.string { data := { toList := [] } }, Value.string { data := { toList := [] } }].length 0 3 = some [Value.string x74a, Value.string x74b, Value.string x74c]) (h27 : callInf cfg 22 [Value.agg { toList := [Value.int .i64 x73a, Value.slice x73ba x73bn x73bc, Value.slice x73ca x73cn x73cc] }, Value.agg { toList := [Value.string x74a, Value.string x74b, Value.string x74c] }, Value.int .i64 ((x1.tmod 100 + 100).tmod 100), Value.bool false] (List.length H) H2 = some (Value.bool x76, H2)) : callInf cfg 6 [.agg #[.int .i64 x0a, .slice x0ba x0bn x0bc, .slice x0ca x0cn x0cc], .int .i64 x1] prot H = some (Value.bool x76, H) :=
  fn_of2 a6 [.e, .v (.agg #[.int .i64 x11a, .slice x11ba x11bn x11bc, .slice x11ca x11cn x11cc]), .v (.bool x12), .e, .b false, .v (.bool x15), .b false, .e, .b false, .b false, .v (.agg #[.int .i64 x20a, .slice x20ba x20bn x20bc, .slice x20ca x20cn x20cc]), .v (.tuple #[.bool x21a, .agg #[.string x21ba, .string x21bb, .string x21bc], .int .i64 x21c]), .e, .h H1, .v (.agg #[.int .i64 x26a, .slice x26ba x26bn x26bc, .slice x26ca x26cn x26cc]), .v (.tuple #[.bool x27a, .agg #[.string x27ba, .string x27bb, .string x27bc], .int .i64 x27c]), .e, .h H2, .v (.int .i64 x32), .v (.int .i64 x34), .e, .e, .b false, .b false, .b true, .b false, .b true, .b false, .b false, .b false, .b true, .v (.agg #[.string x46a, .string x46b, .string x46c]), .b true, .e, .b true, .v (.bool x48), .b false, .b true, .b false, .b false, .b false, .b false, .b false, .b false, .b false, .b false, .b false, .b false, .e, .e, .e, .b true, .b true, .b true, .b true, .b true, .b true, .b true, .b false, .v (.agg #[.int .i64 x73a, .slice x73ba x73bn x73bc, .slice x73ca x73cn x73cc]), .b false, .v (.agg #[.string x74a, .string x74b, .string x74c]), .b false, .b false, .v (.bool x76), .b true, .b false, .b true] (ai h1 (ai h2 (ai h3 (ai h4 (ai h5 (ai h4 (ai h4 (ai h6 (ai h7 (ai h8 (ai h9 (ai h10 (ai h11 (ai h12 (ai h13 (ai h14 (ai h15 (ai h16 (ai h17 (ai h18 (ai h18 (ai h19 (ai h18 (ai h19 (ai h18 (ai h20 (ai h20 (ai h19 (ai h21 (ai h19 (ai h19 (ai h22 (ai h20 (ai h19 (ai h20 (ai h23 (ai h23 (ai h20 (ai h20 (ai h20 (ai h23 (ai h20 (ai h23 (ai (Eq.refl false) (ai (show (100 : Int) ≠ 0 by decide) (ai h24 (ai (show (100 : Int) ≠ 0 by decide) (ai h19 (ai h19 (ai h19 (ai h19 (ai h19 (ai (Eq.refl true) (ai (Eq.refl true) (ai h20 (ai h25 (ai h20 (ai h26 (ai h20 (ai h20 (ai h27 (ai (Eq.refl true) (ai h20 (ai (Eq.refl true) (Eq.refl ((Value.bool x76, H) : Value × AHeap)))))))))))))))))))))))))))))))))))))))))))))))))))))))))))))))))) (by kernel_rfl) rfl
theorem f6_F_5 {x0a : Int} {x0ba : Option Addr} {x0bn x0bc : Nat} {x0ca : Option Addr} {x0cn x0cc : Nat} {x1 : Int} {H : AHeap} {prot : Nat} {x11a : Int} {x11ba : Option Addr} {x11bn x11bc : Nat} {x11ca : Option Addr} {x11cn x11cc : Nat} {x12 x15 : Bool} {x20a : Int} {x20ba : Option Addr} {x20bn x20bc : Nat} {x20ca : Option Addr} {x20cn x20cc : Nat} {x21a : Bool} {x21ba x21bb x21bc : ByteArray} {x21c : Int} {H1 : AHeap} {x26a : Int} {x26ba : Option Addr} {x26bn x26bc : Nat} {x26ca : Option Addr} {x26cn x26cc : Nat} {x27a : Bool} {x27ba x27bb x27bc : ByteArray} {x27c : Int} {H2 : AHeap} {x32 x34 : Int} {x54a x54b x54c : ByteArray} {x56 : Bool} {x65a : Int} {x65ba : Option Addr} {x65bn x65bc : Nat} {x65ca : Option Addr} {x65cn x65cc : Nat} {x66a x66b x66c : ByteArray} {x68 : Bool} (h1 : [Value.int .i64 x0a, Value.slice x0ba x0bn x0bc, Value.slice x0ca x0cn x0cc].all isCell = true) (h2 : getCells (H ++ [vo [Value.int .i64 x0a, Value.slice x0ba x0bn x0bc, Value.slice x0ca x0cn x0cc] 25]) (List.length H) [Value.int .i64 x0a, Value.slice x0ba x0bn x0bc, Value.slice x0ca x0cn x0cc].length 0 3 = some [Value.int .i64 x11a, Value.slice x11ba x11bn x11bc, Value.slice x11ca x11cn x11cc]) (h3 : callInf cfg 11 [Value.agg { toList := [Value.int .i64 x11a, Value.slice x11ba x11bn x11bc, Value.slice x11ca x11cn x11cc] }] (List.length H) (H ++ [vo [Value.int .i64 x0a, Value.slice x0ba x0bn x0bc, Value.slice x0ca x0cn x0cc] 25]) = some (Value.bool x12, H ++ [vo [Value.int .i64 x0a, Value.slice x0ba x0bn x0bc, Value.slice x0ca x0cn x0cc] 25])) (h4 : (!x12) = false) (h5 : callInf cfg 12 [] (List.length H) (H ++ [vo [Value.int .i64 x0a, Value.slice x0ba x0bn x0bc, Value.slice x0ca x0cn x0cc] 25]) = some (Value.bool x15, H ++ [vo [Value.int .i64 x0a, Value.slice x0ba x0bn x0bc, Value.slice x0ca x0cn x0cc] 25])) (h6 : (!x15) = false) (h7 : getCells (H ++ [vo [Value.int .i64 x0a, Value.slice x0ba x0bn x0bc, Value.slice x0ca x0cn x0cc] 25]) (List.length H) [Value.int .i64 x0a, Value.slice x0ba x0bn x0bc, Value.slice x0ca x0cn x0cc].length 0 3 = some [Value.int .i64 x20a, Value.slice x20ba x20bn x20bc, Value.slice x20ca x20cn x20cc]) (h8 : callInf cfg 13 [Value.agg { toList := [Value.int .i64 x20a, Value.slice x20ba x20bn x20bc, Value.slice x20ca x20cn x20cc] }] (List.length H) (H ++ [vo [Value.int .i64 x0a, Value.slice x0ba x0bn x0bc, Value.slice x0ca x0cn x0cc] 25]) = some (Value.tuple { toList := [Value.bool x21a, Value.agg { toList := [Value.string x21ba, Value.string x21bb, Value.string x21bc] }, Value.int .i64 x21c] }, H ++ [vo [Value.int .i64 x0a, Value.slice x0ba x0bn x0bc, Value.slice x0ca x0cn x0cc] 25])) (h9 : [Value.string x21ba, Value.string x21bb, Value.string x21bc].length = 3) (h10 : setCells (H ++ [vo [Value.int .i64 x0a, Value.slice x0ba x0bn x0bc, Value.slice x0ca x0cn x0cc] 25] ++ [vo [Value.string { data := { toList := [] } }, Value.string { data := { toList := [] } }, Value.string { data := { toList := [] } }] 29]) (List.length H) (List.length (H ++ [vo [Value.int .i64 x0a, Value.slice x0ba x0bn x0bc, Value.slice x0ca x0cn x0cc] 25])) [Value.string { data := { toList := [] } }, Value.string { data := { toList := [] } }, Value.string { data := { toList := [] } }].length 0 [Value.string x21ba, Value.string x21bb, Value.string x21bc] = some H1) (h11 : getCells H1 (List.length H) [Value.int .i64 x0a, Value.slice x0ba x0bn x0bc, Value.slice x0ca x0cn x0cc].length 0 3 = some [Value.int .i64 x26a, Value.slice x26ba x26bn x26bc, Value.slice x26ca x26cn x26cc]) (h12 : callInf cfg 18 [Value.agg { toList := [Value.int .i64 x26a, Value.slice x26ba x26bn x26bc, Value.slice x26ca x26cn x26cc] }] (List.length H) H1 = some (Value.tuple { toList := [Value.bool x27a, Value.agg { toList := [Value.string x27ba, Value.string x27bb, Value.string x27bc] }, Value.int .i64 x27c] }, H1)) (h13 : [Value.string x27ba, Value.string x27bb, Value.string x27bc].length = 3) (h14 : setCells (H1 ++ [vo [Value.string { data := { toList := [] } }, Value.string { data := { toList := [] } }, Value.string { data := { toList := [] } }] 29]) (List.length H) (List.length H1) [Value.string { data := { toList := [] } }, Value.string { data := { toList := [] } }, Value.string { data := { toList := [] } }].length 0 [Value.string x27ba, Value.string x27bb, Value.string x27bc] = some H2) (h15 : callInf cfg 15 [Value.int .i64 x21c] (List.length H) H2 = some (Value.int .i64 x32, H2)) (h16 : callInf cfg 15 [Value.int .i64 x27c] (List.length H) H2 = some (Value.int .i64 x34, H2)) (h17 : Fit .i64 (x32 + x34)) (h18 : (x32 + x34 != 0) = false) (h19 : x21a = false) (h20 : x27a = true) (h21 : getCells H2 (List.length H1) [Value.string { data := { toList := [] } }, Value.string { data := { toList := [] } }, Value.string { data := { toList := [] } }].length 0 3 = some [Value.string x54a, Value.string x54b, Value.string x54c]) (h22 : abin cfg.P BinOp.neq 29 (Value.agg { toList := [Value.string x54a, Value.string x54b, Value.string x54c] }) (Value.agg { toList := [Value.string { data := { toList := [] } }, Value.string { data := { toList := [] } }, Value.string { data := { toList := [] } }] }) = some (Value.bool x56)) (h23 : x56 = false) (h24 : Fit .i64 (x1.tmod 100 + 100)) (h25 : getCells H2 (List.length H) [Value.int .i64 x0a, Value.slice x0ba x0bn x0bc, Value.slice x0ca x0cn x0cc].length 0 3 = some [Value.int .i64 x65a, Value.slice x65ba x65bn x65bc, Value.slice x65ca x65cn x65cc]) (h26 : getCells H2 (List.length (H ++ [vo [Value.int .i64 x0a, Value.slice x0ba x0bn x0bc, Value.slice x0ca x0cn x0cc] 25])) [Value.string { data := { toList := [] } }, Value.string { data := { toList := [] } }, Value.string { data := { toList := [] } }].length 0 3 = some [Value.string x66a, Value.string x66b, Value.string x66c]) (h27 : callInf cfg 22 [Value.agg { toList := [Value.int .i64 x65a, Value.slice x65ba x65bn x65bc, Value.slice x65ca x65cn x65cc] }, Value.agg { toList := [Value.string x66a, Value.string x66b, Value.string x66c] }, Value.int .i64 ((x1.tmod 100 + 100).tmod 100), Value.bool true] (List.length H) H2 = some (Value.bool x68, H2)) (h28 : x68 = true) : callInf cfg 6 [.agg #[.int .i64 x0a, .slice x0ba x0bn x0bc, .slice x0ca x0cn x0cc], .int .i64 x1] prot H = some (Value.bool true, H) :=
  fn_of2 a6 [.e, .v (.agg #[.int .i64 x11a, .slice x11ba x11bn x11bc, .slice x11ca x11cn x11cc]), .v (.bool x12), .e, .b false, .v (.bool x15), .b false, .e, .b false, .b false, .v (.agg #[.int .i64 x20a, .slice x20ba x20bn x20bc, .slice x20ca x20cn x20cc]), .v (.tuple #[.bool x21a, .agg #[.string x21ba, .string x21bb, .string x21bc], .int .i64 x21c]), .e, .h H1, .v (.agg #[.int .i64 x26a, .slice x26ba x26bn x26bc, .slice x26ca x26cn x26cc]), .v (.tuple #[.bool x27a, .agg #[.string x27ba, .string x27bb, .string x27bc], .int .i64 x27c]), .e, .h H2, .v (.int .i64 x32), .v (.int .i64 x34), .e, .e, .b false, .b false, .b false, .b false, .b false, .b false, .b false, .b false, .b false, .b false, .b false, .b false, .b false, .b false, .b false, .b false, .b true, .v (.agg #[.string x54a, .string x54b, .string x54c]), .b true, .e, .b true, .v (.bool x56), .b false, .b true, .b false, .b false, .e, .e, .e, .b false, .v (.agg #[.int .i64 x65a, .slice x65ba x65bn x65bc, .slice x65ca x65cn x65cc]), .b false, .v (.agg #[.string x66a, .string x66b, .string x66c]), .b false, .b false, .v (.bool x68), .b false, .b true, .b true, .b true, .b true, .b true, .b true, .b true, .b true, .b true] (ai h1 (ai h2 (ai h3 (ai h4 (ai h5 (ai h4 (ai h4 (ai h6 (ai h7 (ai h8 (ai h9 (ai h10 (ai h11 (ai h12 (ai h13 (ai h14 (ai h15 (ai h16 (ai h17 (ai h18 (ai h18 (ai h19 (ai h18 (ai h19 (ai h18 (ai (Eq.refl false) (ai (Eq.refl false) (ai h19 (ai h19 (ai h19 (ai (Eq.refl false) (ai h19 (ai (Eq.refl false) (ai (Eq.refl false) (ai (Eq.refl false) (ai h20 (ai h21 (ai h20 (ai h20 (ai h22 (ai (Eq.refl false) (ai h20 (ai (Eq.refl false) (ai h23 (ai (show (100 : Int) ≠ 0 by decide) (ai h24 (ai (show (100 : Int) ≠ 0 by decide) (ai h19 (ai h25 (ai h19 (ai h26 (ai h19 (ai h19 (ai h27 (ai h19 (ai h28 (ai h28 (ai h20 (ai h20 (ai h20 (ai h20 (ai h28 (ai h20 (ai h28 (Eq.refl ((Value.bool true, H) : Value × AHeap)))))))))))))))))))))))))))))))))))))))))))))))))))))))))))))))))) (by kernel_rfl) rfl
theorem f6_F_7 {x0a : Int} {x0ba : Option Addr} {x0bn x0bc : Nat} {x0ca : Option Addr} {x0cn x0cc : Nat} {x1 : Int} {H : AHeap} {prot : Nat} {x11a : Int} {x11ba : Option Addr} {x11bn x11bc : Nat} {x11ca : Option Addr} {x11cn x11cc : Nat} {x12 x15 : Bool} {x20a : Int} {x20ba : Option Addr} {x20bn x20bc : Nat} {x20ca : Option Addr} {x20cn x20cc : Nat} {x21a : Bool} {x21ba x21bb x21bc : ByteArray} {x21c : Int} {H1 : AHeap} {x26a : Int} {x26ba : Option Addr} {x26bn x26bc : Nat} {x26ca : Option Addr} {x26cn x26cc : Nat} {x27a : Bool} {x27ba x27bb x27bc : ByteArray} {x27c : Int} {H2 : AHeap} {x32 x34 x65a : Int} {x65ba : Option Addr} {x65bn x65bc : Nat} {x65ca : Option Addr} {x65cn x65cc : Nat} {x66a x66b x66c : ByteArray} {x68 : Bool} {x73a : Int} {x73ba : Option Addr} {x73bn x73bc : Nat} {x73ca : Option Addr} {x73cn x73cc : Nat} {x74a x74b x74c : ByteArray} {x76 : Bool} (h1 : [Value.int .i64 x0a, Value.slice x0ba x0bn x0bc, Value.slice x0ca x0cn x0cc].all isCell = true) (h2 : getCells (H ++ [vo [Value.int .i64 x0a, Value.slice x0ba x0bn x0bc, Value.slice x0ca x0cn x0cc] 25]) (List.length H) [Value.int .i64 x0a, Value.slice x0ba x0bn x0bc, Value.slice x0ca x0cn x0cc].length 0 3 = some [Value.int .i64 x11a, Value.slice x11ba x11bn x11bc, Value.slice x11ca x11cn x11cc]) (h3 : callInf cfg 11 [Value.agg { toList := [Value.int .i64 x11a, Value.slice x11ba x11bn x11bc, Value.slice x11ca x11cn x11cc] }] (List.length H) (H ++ [vo [Value.int .i64 x0a, Value.slice x0ba x0bn x0bc, Value.slice x0ca x0cn x0cc] 25]) = some (Value.bool x12, H ++ [vo [Value.int .i64 x0a, Value.slice x0ba x0bn x0bc, Value.slice x0ca x0cn x0cc] 25])) (h4 : (!x12) = false) (h5 : callInf cfg 12 [] (List.length H) (H ++ [vo [Value.int .i64 x0a, Value.slice x0ba x0bn x0bc, Value.slice x0ca x0cn x0cc] 25]) = some (Value.bool x15, H ++ [vo [Value.int .i64 x0a, Value.slice x0ba x0bn x0bc, Value.slice x0ca x0cn x0cc] 25])) (h6 : (!x15) = false) (h7 : getCells (H ++ [vo [Value.int .i64 x0a, Value.slice x0ba x0bn x0bc, Value.slice x0ca x0cn x0cc] 25]) (List.length H) [Value.int .i64 x0a, Value.slice x0ba x0bn x0bc, Value.slice x0ca x0cn x0cc].length 0 3 = some [Value.int .i64 x20a, Value.slice x20ba x20bn x20bc, Value.slice x20ca x20cn x20cc]) (h8 : callInf cfg 13 [Value.agg { toList := [Value.int .i64 x20a, Value.slice x20ba x20bn x20bc, Value.slice x20ca x20cn x20cc] }] (List.length H) (H ++ [vo [Value.int .i64 x0a, Value.slice x0ba x0bn x0bc, Value.slice x0ca x0cn x0cc] 25]) = some (Value.tuple { toList := [Value.bool x21a, Value.agg { toList := [Value.string x21ba, Value.string x21bb, Value.string x21bc] }, Value.int .i64 x21c] }, H ++ [vo [Value.int .i64 x0a, Value.slice x0ba x0bn x0bc, Value.slice x0ca x0cn x0cc] 25])) (h9 : [Value.string x21ba, Value.string x21bb, Value.string x21bc].length = 3) (h10 : setCells (H ++ [vo [Value.int .i64 x0a, Value.slice x0ba x0bn x0bc, Value.slice x0ca x0cn x0cc] 25] ++ [vo [Value.string { data := { toList := [] } }, Value.string { data := { toList := [] } }, Value.string { data := { toList := [] } }] 29]) (List.length H) (List.length (H ++ [vo [Value.int .i64 x0a, Value.slice x0ba x0bn x0bc, Value.slice x0ca x0cn x0cc] 25])) [Value.string { data := { toList := [] } }, Value.string { data := { toList := [] } }, Value.string { data := { toList := [] } }].length 0 [Value.string x21ba, Value.string x21bb, Value.string x21bc] = some H1) (h11 : getCells H1 (List.length H) [Value.int .i64 x0a, Value.slice x0ba x0bn x0bc, Value.slice x0ca x0cn x0cc].length 0 3 = some [Value.int .i64 x26a, Value.slice x26ba x26bn x26bc, Value.slice x26ca x26cn x26cc]) (h12 : callInf cfg 18 [Value.agg { toList := [Value.int .i64 x26a, Value.slice x26ba x26bn x26bc, Value.slice x26ca x26cn x26cc] }] (List.length H) H1 = some (Value.tuple { toList := [Value.bool x27a, Value.agg { toList := [Value.string x27ba, Value.string x27bb, Value.string x27bc] }, Value.int .i64 x27c] }, H1)) (h13 : [Value.string x27ba, Value.string x27bb, Value.string x27bc].length = 3) (h14 : setCells (H1 ++ [vo [Value.string { data := { toList := [] } }, Value.string { data := { toList := [] } }, Value.string { data := { toList := [] } }] 29]) (List.length H) (List.length H1) [Value.string { data := { toList := [] } }, Value.string { data := { toList := [] } }, Value.string { data := { toList := [] } }].length 0 [Value.string x27ba, Value.string x27bb, Value.string x27bc] = some H2) (h15 : callInf cfg 15 [Value.int .i64 x21c] (List.length H) H2 = some (Value.int .i64 x32, H2)) (h16 : callInf cfg 15 [Value.int .i64 x27c] (List.length H) H2 = some (Value.int .i64 x34, H2)) (h17 : Fit .i64 (x32 + x34)) (h18 : (x32 + x34 != 0) = false) (h19 : x21a = false) (h20 : x27a = false) (h21 : Fit .i64 (x1.tmod 100 + 100)) (h22 : getCells H2 (List.length H) [Value.int .i64 x0a, Value.slice x0ba x0bn x0bc, Value.slice x0ca x0cn x0cc].length 0 3 = some [Value.int .i64 x65a, Value.slice x65ba x65bn x65bc, Value.slice x65ca x65cn x65cc]) (h23 : getCells H2 (List.length (H ++ [vo [Value.int .i64 x0a, Value.slice x0ba x0bn x0bc, Value.slice x0ca x0cn x0cc] 25])) [Value.string { data := { toList := [] } }, Value.string { data := { toList := [] } }, Value.string { data := { toList := [] } }].length 0 3 = some [Value.string x66a, Value.string x66b, Value.string x66c]) (h24 : callInf cfg 22 [Value.agg { toList := [Value.int .i64 x65a, Value.slice x65ba x65bn x65bc, Value.slice x65ca x65cn x65cc] }, Value.agg { toList := [Value.string x66a, Value.string x66b, Value.string x66c] }, Value.int .i64 ((x1.tmod 100 + 100).tmod 100), Value.bool true] (List.length H) H2 = some (Value.bool x68, H2)) (h25 : x68 = true) (h26 : getCells H2 (List.length H) [Value.int .i64 x0a, Value.slice x0ba x0bn x0bc, Value.slice x0ca x0cn x0cc].length 0 3 = some [Value.int .i64 x73a, Value.slice x73ba x73bn x73bc, Value.slice x73ca x73cn x73cc]) (h27 : getCells H2 (List.length H1) [Value.string { data := { toList := [] } }, Value.string { data := { toList := [] } }, Value.string { data := { toList := [] } }].length 0 3 = some [Value.string x74a, Value.string x74b, Value.string x74c]) (h28 : callInf cfg 22 [Value.agg { toList := [Value.int .i64 x73a, Value.slice x73ba x73bn x73bc, Value.slice x73ca x73cn x73cc] }, Value.agg { toList := [Value.string x74a, Value.string x74b, Value.string x74c] }, Value.int .i64 ((x1.tmod 100 + 100).tmod 100), Value.bool false] (List.length H) H2 = some (Value.bool x76, H2)) : callInf cfg 6 [.agg #[.int .i64 x0a, .slice x0ba x0bn x0bc, .slice x0ca x0cn x0cc], .int .i64 x1] prot H = some (Value.bool x76, H) :=
  fn_of2 a6 [.e, .v (.agg #[.int .i64 x11a, .slice x11ba x11bn x11bc, .slice x11ca x11cn x11cc]), .v (.bool x12), .e, .b false, .v (.bool x15), .b false, .e, .b false, .b false, .v (.agg #[.int .i64 x20a, .slice x20ba x20bn x20bc, .slice x20ca x20cn x20cc]), .v (.tuple #[.bool x21a, .agg #[.string x21ba, .string x21bb, .string x21bc], .int .i64 x21c]), .e, .h H1, .v (.agg #[.int .i64 x26a, .slice x26ba x26bn x26bc, .slice x26ca x26cn x26cc]), .v (.tuple #[.bool x27a, .agg #[.string x27ba, .string x27bb, .string x27bc], .int .i64 x27c]), .e, .h H2, .v (.int .i64 x32), .v (.int .i64 x34), .e, .e, .b false, .b false, .b false, .b false, .b false, .b false, .b false, .b false, .b false, .b false, .b false, .b false, .b false, .b false, .b false, .b false, .b false, .b false, .b false, .b false, .b false, .b false, .b false, .e, .e, .e, .b false, .v (.agg #[.int .i64 x65a, .slice x65ba x65bn x65bc, .slice x65ca x65cn x65cc]), .b false, .v (.agg #[.string x66a, .string x66b, .string x66c]), .b false, .b false, .v (.bool x68), .b false, .b true, .b true, .b false, .v (.agg #[.int .i64 x73a, .slice x73ba x73bn x73bc, .slice x73ca x73cn x73cc]), .b false, .v (.agg #[.string x74a, .string x74b, .string x74c]), .b false, .b false, .v (.bool x76), .b true, .b false, .b true] (ai h1 (ai h2 (ai h3 (ai h4 (ai h5 (ai h4 (ai h4 (ai h6 (ai h7 (ai h8 (ai h9 (ai h10 (ai h11 (ai h12 (ai h13 (ai h14 (ai h15 (ai h16 (ai h17 (ai h18 (ai h18 (ai h19 (ai h18 (ai h19 (ai h18 (ai (Eq.refl false) (ai (Eq.refl false) (ai h19 (ai h19 (ai h19 (ai (Eq.refl false) (ai h19 (ai (Eq.refl false) (ai (Eq.refl false) (ai (Eq.refl false) (ai h20 (ai h20 (ai h20 (ai (Eq.refl false) (ai h20 (ai (Eq.refl false) (ai (Eq.refl false) (ai (show (100 : Int) ≠ 0 by decide) (ai h21 (ai (show (100 : Int) ≠ 0 by decide) (ai h19 (ai h22 (ai h19 (ai h23 (ai h19 (ai h19 (ai h24 (ai h19 (ai h25 (ai h25 (ai h20 (ai h26 (ai h20 (ai h27 (ai h20 (ai h20 (ai h28 (ai h25 (ai h20 (ai h25 (Eq.refl ((Value.bool x76, H) : Value × AHeap))))))))))))))))))))))))))))))))))))))))))))))))))))))))))))))))))) (by kernel_rfl) rfl
theorem f6_F_9 {x0a : Int} {x0ba : Option Addr} {x0bn x0bc : Nat} {x0ca : Option Addr} {x0cn x0cc : Nat} {x1 : Int} {H : AHeap} {prot : Nat} {x11a : Int} {x11ba : Option Addr} {x11bn x11bc : Nat} {x11ca : Option Addr} {x11cn x11cc : Nat} {x12 x15 x18 : Bool} (h1 : [Value.int .i64 x0a, Value.slice x0ba x0bn x0bc, Value.slice x0ca x0cn x0cc].all isCell = true) (h2 : getCells (H ++ [vo [Value.int .i64 x0a, Value.slice x0ba x0bn x0bc, Value.slice x0ca x0cn x0cc] 25]) (List.length H) [Value.int .i64 x0a, Value.slice x0ba x0bn x0bc, Value.slice x0ca x0cn x0cc].length 0 3 = some [Value.int .i64 x11a, Value.slice x11ba x11bn x11bc, Value.slice x11ca x11cn x11cc]) (h3 : callInf cfg 11 [Value.agg { toList := [Value.int .i64 x11a, Value.slice x11ba x11bn x11bc, Value.slice x11ca x11cn x11cc] }] (List.length H) (H ++ [vo [Value.int .i64 x0a, Value.slice x0ba x0bn x0bc, Value.slice x0ca x0cn x0cc] 25]) = some (Value.bool x12, H ++ [vo [Value.int .i64 x0a, Value.slice x0ba x0bn x0bc, Value.slice x0ca x0cn x0cc] 25])) (h4 : (!x12) = false) (h5 : callInf cfg 12 [] (List.length H) (H ++ [vo [Value.int .i64 x0a, Value.slice x0ba x0bn x0bc, Value.slice x0ca x0cn x0cc] 25]) = some (Value.bool x15, H ++ [vo [Value.int .i64 x0a, Value.slice x0ba x0bn x0bc, Value.slice x0ca x0cn x0cc] 25])) (h6 : (!x15) = true) (h7 : callInf cfg 12 [] (List.length H) (H ++ [vo [Value.int .i64 x0a, Value.slice x0ba x0bn x0bc, Value.slice x0ca x0cn x0cc] 25]) = some (Value.bool x18, H ++ [vo [Value.int .i64 x0a, Value.slice x0ba x0bn x0bc, Value.slice x0ca x0cn x0cc] 25])) : callInf cfg 6 [.agg #[.int .i64 x0a, .slice x0ba x0bn x0bc, .slice x0ca x0cn x0cc], .int .i64 x1] prot H = some (Value.bool x18, H) :=
  fn_of2 a6 [.e, .v (.agg #[.int .i64 x11a, .slice x11ba x11bn x11bc, .slice x11ca x11cn x11cc]), .v (.bool x12), .e, .b false, .v (.bool x15), .b false, .e, .b false, .b true, .v (.bool x18)] (ai h1 (ai h2 (ai h3 (ai h4 (ai h5 (ai h4 (ai h4 (ai h6 (ai h7 (Eq.refl ((Value.bool x18, H) : Value × AHeap))))))))))) (by kernel_rfl) rfl
theorem f6_F_10 {x0a : Int} {x0ba : Option Addr} {x0bn x0bc : Nat} {x0ca : Option Addr} {x0cn x0cc : Nat} {x1 : Int} {H : AHeap} {prot : Nat} {x11a : Int} {x11ba : Option Addr} {x11bn x11bc : Nat} {x11ca : Option Addr} {x11cn x11cc : Nat} {x12 x18 : Bool} (h1 : [Value.int .i64 x0a, Value.slice x0ba x0bn x0bc, Value.slice x0ca x0cn x0cc].all isCell = true) (h2 : getCells (H ++ [vo [Value.int .i64 x0a, Value.slice x0ba x0bn x0bc, Value.slice x0ca x0cn x0cc] 25]) (List.length H) [Value.int .i64 x0a, Value.slice x0ba x0bn x0bc, Value.slice x0ca x0cn x0cc].length 0 3 = some [Value.int .i64 x11a, Value.slice x11ba x11bn x11bc, Value.slice x11ca x11cn x11cc]) (h3 : callInf cfg 11 [Value.agg { toList := [Value.int .i64 x11a, Value.slice x11ba x11bn x11bc, Value.slice x11ca x11cn x11cc] }] (List.length H) (H ++ [vo [Value.int .i64 x0a, Value.slice x0ba x0bn x0bc, Value.slice x0ca x0cn x0cc] 25]) = some (Value.bool x12, H ++ [vo [Value.int .i64 x0a, Value.slice x0ba x0bn x0bc, Value.slice x0ca x0cn x0cc] 25])) (h4 : (!x12) = true) (h5 : callInf cfg 12 [] (List.length H) (H ++ [vo [Value.int .i64 x0a, Value.slice x0ba x0bn x0bc, Value.slice x0ca x0cn x0cc] 25]) = some (Value.bool x18, H ++ [vo [Value.int .i64 x0a, Value.slice x0ba x0bn x0bc, Value.slice x0ca x0cn x0cc] 25])) : callInf cfg 6 [.agg #[.int .i64 x0a, .slice x0ba x0bn x0bc, .slice x0ca x0cn x0cc], .int .i64 x1] prot H = some (Value.bool x18, H) :=
  fn_of2 a6 [.e, .v (.agg #[.int .i64 x11a, .slice x11ba x11bn x11bc, .slice x11ca x11cn x11cc]), .v (.bool x12), .e, .b true, .b true, .b true, .b true, .v (.bool x18)] (ai h1 (ai h2 (ai h3 (ai h4 (ai h4 (ai h4 (ai (Eq.refl true) (ai h5 (Eq.refl ((Value.bool x18, H) : Value × AHeap)))))))))) (by kernel_rfl) rfl
end Go.Proofs.Ythjkodbinkiifaa.Am23
namespace Go.Proofs.Ythjkodbinkiifaa.Am23
open Go Go.Proofs.Ythjkodbinkiifaa.Am

theorem pw_right (v : List Nat) : ∀ n, pw v n ++ v = pw v (n + 1)
  | 0 => by simp [pw]
  | n + 1 => by
    show (v ++ pw v n) ++ v = v ++ pw v (n + 1)
    rw [List.append_assoc, pw_right v n]
theorem pw_len2 (v : List Nat) : ∀ n, (pw v n).length = n * v.length
  | 0 => by simp [pw]
  | n + 1 => by
    show (v ++ pw v n).length = _
    rw [List.length_append, pw_len2 v n, Nat.add_mul]
    omega

theorem loop22 {p q : List Nat} (hp : p.length ≤ 1000) (hq : q.length ≤ 1000) {m : Nat} (hm : m ≤ 100) {R : ByteArray} {H0 H : AHeap} {prot a b : Nat} {f : Bool} (hb : H[b]? = some (.cells [.string (lw p), .string (lw q), .string R] 29 3 .var)) : ∀ (d i : Nat), i + d = m →
    lpInf (lpOf cfg a22 0 prot H0) ([.int .i64 m, .bool f, .pointer (some ⟨a, 0, some 3⟩), .pointer (some ⟨b, 0, some 3⟩), .string (lw (p ++ pw q i)), .int .i64 i], H) =
      some (.exit 0, [.bool f, .pointer (some ⟨a, 0, some 3⟩), .pointer (some ⟨b, 0, some 3⟩), .string (lw (p ++ pw q m))], H)
  | 0, i, hi => by
    have : i = m := by omega
    subst this
    exact lp_last (f22_L0_1 (by omega))
  | d + 1, i, hi => by
    have ih := loop22 hp hq hm (H0 := H0) (prot := prot) (a := a) (f := f) hb d (i + 1) (by omega)
    obtain ⟨_, g1, _, _⟩ := fld3 hb
    have happ : lw (p ++ pw q i) ++ lw q = lw (p ++ pw q (i + 1)) := by rw [lw_append, List.append_assoc, pw_right]
    have hsz : (lw (p ++ pw q i)).size + (lw q).size ≤ 9223372036854775807 := by
      rw [lw_size, lw_size, List.length_append, pw_len2]
      have : i * q.length ≤ 100 * 1000 := Nat.mul_le_mul (by omega) hq
      omega
    have st := f22_L0_0 (x2 := (m : Int)) (x3 := f) (x4p := a) (x4o := 0) (x4l := 3) (H0 := H0) (prot := prot) (x10 := (i : Int)) (by omega) g1 hsz (fit64 (by omega) (by omega))
    rw [happ] at st
    exact lp_next st ih

theorem c22 {k m : Nat} {xs : List Int} {bs : List Bool} (hG : Good k xs bs) (h0 : chkG k xs bs = 0) {p q r : List Nat} (wp : Wk k p) (wq : Wk k q) (wr : Wk k r) (hp : p.length ≤ 1000) (hq : q.length ≤ 1000) (hr : r.length ≤ 1000) (hne : q ≠ []) (hm : m ≤ 100) (f : Bool) {vN vA : Value} (prot : Nat) (H : AHeap) (hA : IsA H xs bs vN vA) :
    callInf cfg 22 [av k vN vA, pv (lw p, lw q, lw r), .int .i64 m, .bool f] prot H = some (.bool (bs.getD (go k xs 0 (p ++ (pw q m ++ r))) false == f), H) := by
  obtain ⟨HX, hHX⟩ : ∃ HX, HX = H ++ [bx k vN vA] ++ [AObj.cells [.string (lw p), .string (lw q), .string (lw r)] 29 3 .var] := ⟨_, rfl⟩
  have sX : Stay none H HX := by rw [hHX]; exact (Stay.app none H _).trans (Stay.app none _ _)
  have hgX : HX[H.length]? = some (bx k vN vA) := by rw [hHX, List.getElem?_append_left (by simp)]; exact append_get.1
  have e1 : (H ++ [bx k vN vA]).length = H.length + 1 := by simp
  have hgX1 : HX[H.length + 1]? = some (.cells [.string (lw p), .string (lw q), .string (lw r)] 29 3 .var) := by rw [hHX, ← e1]; exact append_get.1
  have hl := loop22 hp hq hm (H0 := H) (prot := prot) (a := H.length) (f := f) hgX1 m 0 (by omega)
  have hlen : m * q.length ≤ 100 * 1000 := Nat.mul_le_mul hm hq
  have hw : Wk k (p ++ (pw q m ++ r)) := wk_app wp (wk_app (pw_wk wq m) wr)
  have h27 := c27 hG h0 hw (by simp only [List.length_append, pw_len2]; omega) H.length HX (hA.stay sX)
  have happ : lw (p ++ pw q m) ++ lw r = lw (p ++ (pw q m ++ r)) := by rw [lw_append, List.append_assoc]
  have hsz : (lw (p ++ pw q m)).size + (lw r).size ≤ 9223372036854775807 := by
    rw [lw_size, lw_size, List.length_append, pw_len2]; omega
  rw [← happ] at h27
  obtain ⟨j0, j1, j2, _⟩ := fld3 hgX1
  have hq0 : (!(lw q).toList == []) = true := by
    cases q with
    | nil => exact absurd rfl hne
    | cons c q =>
      rw [ByteArray.toList_eq]
      rfl
  obtain ⟨aN, cN, rfl⟩ := hA.n.len
  obtain ⟨aA, cA, rfl⟩ := hA.a.len
  obtain ⟨_, _, _, g3⟩ := fld3 hgX
  have hpn : p ++ pw q 0 = p := by simp [pw]
  rw [hpn] at hl
  rw [← e1] at j0 j1 j2 hl
  subst hHX
  exact f22_F_0 all3 rfl j0 hl g3 j2 hsz h27 f15_F_0 rfl j1 hq0

theorem pv_ne (v : ByteArray × ByteArray × ByteArray) : abin cfg.P .neq 29 (pv v) (pv v) = some (.bool false) := by
  have h := pv_eq v
  unfold abin at h ⊢
  simp only at h ⊢
  cases ha : aeq cfg.P 29 (pv v) (pv v) with
  | none => rw [ha] at h; cases h
  | some b => rw [ha] at h; cases h; rfl

def WL (b : Bf) : Prop := ∀ t, (b.ws.getD t []).length ≤ b.q.length
theorem WL.step {k : Nat} {xs : List Int} {bs : List Bool} (hG : Good k xs bs) {b : Bf} (ho : BOk bs.length b) (h : WL b) {i s c : Nat} {w : List Nat} (hq : b.q[i]? = some (s, w)) (hc : c < k) : WL (bstep k xs s w c b) := by
  unfold bstep
  split
  · exact h
  · obtain ⟨hs, hw⟩ := ho.q _ _ _ hq
    obtain ⟨_, ht, _⟩ := tgt_lt hG hs hc
    have hi := (List.getElem?_eq_some_iff.1 hq).1
    intro t
    simp only
    rw [getD_setW (by rw [ho.lw]; exact ht)]
    split
    · simp only [List.length_append, List.length_singleton]; omega
    · have := h t; simp only [List.length_append, List.length_singleton]; omega
theorem WL.row {k : Nat} {xs : List Int} {bs : List Bool} (hG : Good k xs bs) {i s : Nat} {w : List Nat} : ∀ (d c : Nat) (b : Bf), c + d = k → BOk bs.length b → WL b → b.q[i]? = some (s, w) → WL (brow k xs s w d c b)
  | 0, _, _, _, _, h, _ => h
  | d + 1, c, b, hd, ho, h, hq => WL.row hG d (c + 1) _ (by omega) (ho.step hG hq (by omega)) (h.step hG ho hq (by omega)) (bstep_q hq)
theorem WL.run {k : Nat} {xs : List Int} {bs : List Bool} (hG : Good k xs bs) : ∀ (f i : Nat) (b : Bf), BOk bs.length b → WL b → WL (brun k xs f i b)
  | 0, _, _, _, h => h
  | f + 1, i, b, ho, h => by
    unfold brun
    split
    · exact h
    · rename_i s w hq
      exact WL.run hG f (i + 1) _ (ho.row hG k 0 b (by omega) hq) (WL.row hG k 0 b (by omega) ho h hq)
theorem bfs_wlen {k : Nat} {xs : List Int} {bs : List Bool} (hG : Good k xs bs) {a : Nat} (ha : a < bs.length) (e : Bool) (t : Nat) : ((bfs k xs bs.length a e).ws.getD t []).length ≤ bs.length + 1 := by
  have h1 := WL.run hG (bs.length + 2) 0 _ (BOk.ini ha e) (fun t => by
    simp only [bini]
    rw [List.getD_eq_getElem?_getD, List.getElem?_replicate]
    split <;> simp) t
  have h2 := (bfs_ok hG ha e).u
  have h1 : ((bfs k xs bs.length a e).ws.getD t []).length ≤ (bfs k xs bs.length a e).q.length := h1
  omega

/-- What is said of the words of a language that is not finite. -/
theorem pump_words {k : Nat} {xs : List Int} {bs : List Bool} (hG : Good k xs bs) (h : (boundV k xs bs).1 = false) :
    ∃ p q r, (boundV k xs bs).2 = (lw p, lw q, lw r) ∧ Wk k p ∧ Wk k q ∧ Wk k r ∧ p.length ≤ 1000 ∧ q.length ≤ 1000 ∧ r.length ≤ 1000 ∧ q ≠ [] ∧ ∀ i, bs.getD (go k xs 0 (p ++ (pw q i ++ r))) false = true := by
  have hb1 := hG.n1
  cases hb : bestV k xs bs with
  | none => unfold boundV at h; rw [hb] at h; cases h
  | some b =>
    obtain ⟨hbl, hok, e, he1, he2, he3⟩ := best_end hG hb
    have hv : (boundV k xs bs).2 = (lw ((bfs k xs bs.length 0 true).ws.getD b []), lw ((bfs k xs bs.length b false).ws.getD b []), lw ((bfs k xs bs.length b true).ws.getD e [])) := by unfold boundV; rw [hb]; simp only; rw [he1]; rfl
    unfold okB at hok
    obtain ⟨hu, hm⟩ := Bool.and_eq_true _ _ ▸ hok
    rw [useL_at hbl] at hu
    obtain ⟨hm0, _⟩ := Bool.and_eq_true _ _ ▸ hu
    unfold okE at he3
    obtain ⟨hacc, hme⟩ := Bool.and_eq_true _ _ ▸ he3
    obtain ⟨a1, a2, _⟩ := bfs_word hG (show 0 < bs.length by omega) true b hm0
    obtain ⟨b1, b2, b3⟩ := bfs_word hG hbl false b hm
    obtain ⟨c1, c2, _⟩ := bfs_word hG hbl true e hme
    refine ⟨_, _, _, hv, a1, b1, c1, ?_, ?_, ?_, b3 rfl, fun i => ?_⟩
    · have := bfs_wlen hG (show 0 < bs.length by omega) true b; have := hG.n5; omega
    · have := bfs_wlen hG hbl false b; have := hG.n5; omega
    · have := bfs_wlen hG hbl true e; have := hG.n5; omega
    · rw [go_app, a2, go_app, pw_go b2, c2]; exact hacc
theorem bound_true {k : Nat} {xs : List Int} {bs : List Bool} (h : (boundV k xs bs).1 = true) : (boundV k xs bs).2 = (ByteArray.empty, ByteArray.empty, ByteArray.empty) := by
  cases hb : bestV k xs bs with
  | none => unfold boundV; rw [hb]
  | some b => unfold boundV at h; rw [hb] at h; cases h
/-- A language and what it leaves are not both finite. -/
theorem not_both {k : Nat} {xs : List Int} {bs : List Bool} (hG : Good k xs bs) (h1 : (boundV k xs bs).1 = true) (h2 : (boundV k xs (bs.map (!·))).1 = true) : False := by
  have hb1 := hG.n1
  have hk1 := hG.k1
  have g1 := (finite_iff hG).1 h1 bs.length (Nat.le_refl _) (by omega)
  have g2 := (finite_iff hG.not).1 h2 bs.length (by simp) (by simp; omega)
  have hs := rowC_sum hG bs.length 0 (by omega)
  have : 0 < k ^ bs.length := Nat.pow_pos (by omega)
  omega
theorem bnot {k : Nat} {xs : List Int} {bs : List Bool} (hG : Good k xs bs) {w : List Nat} (hw : Wk k w) (h : (bs.map (!·)).getD (go k xs 0 w) false = true) : bs.getD (go k xs 0 w) false = false := by
  have hb1 := hG.n1
  have hl := go_lt hG w 0 hw (by omega)
  rw [List.getD_eq_getElem?_getD, List.getElem?_map, List.getElem?_eq_getElem hl] at h
  rw [List.getD_eq_getElem?_getD, List.getElem?_eq_getElem hl]
  simpa using h

theorem law6 {k : Int} {xs : List Int} {bs : List Bool} {vN vA : Value} (x1 : Int) (prot : Nat) (H : AHeap) (hA : IsA H xs bs vN vA) :
    callInf cfg 6 [av k vN vA, .int .i64 x1] prot H = some (.bool true, H) := by
  obtain ⟨HX, hHX⟩ : ∃ HX, HX = H ++ [bx k vN vA] := ⟨_, rfl⟩
  have lX : HX.length = H.length + 1 := by rw [hHX]; simp
  have sX : Stay none H HX := by rw [hHX]; exact Stay.app none H _
  have hgX : HX[H.length]? = some (bx k vN vA) := by rw [hHX]; exact append_get.1
  have hAX := hA.stay sX
  have hck := c11 (k := k) H.length HX hAX
  by_cases h0 : chkG k xs bs = 0
  · rw [decide_eq_true h0] at hck
    obtain ⟨k, rfl, hG⟩ := good_of h0
    obtain ⟨m, hm, hml⟩ : ∃ m : Nat, (x1.tmod 100 + 100).tmod 100 = m ∧ m ≤ 100 := by
      have h1 := Int.tmod_lt_of_pos x1 (show (0 : Int) < 100 by omega)
      have h2 : -100 < x1.tmod 100 := Int.lt_tmod_of_pos x1 (by omega)
      have h3 : 0 ≤ (x1.tmod 100 + 100).tmod 100 := Int.tmod_nonneg _ (by omega)
      have h4 := Int.tmod_lt_of_pos (x1.tmod 100 + 100) (show (0 : Int) < 100 by omega)
      exact ⟨((x1.tmod 100 + 100).tmod 100).toNat, by omega, by omega⟩
    have hfit : Fit .i64 (x1.tmod 100 + 100) := by
      have h1 := Int.tmod_lt_of_pos x1 (show (0 : Int) < 100 by omega)
      have h2 : -100 < x1.tmod 100 := Int.lt_tmod_of_pos x1 (by omega)
      exact fit64 (by omega) (by omega)
    have hcx : chkG k xs (bs.map (!·)) = 0 := by
      have : chkG k xs (bs.map (!·)) = chkG k xs bs := by unfold chkG good; simp only [List.length_map]
      rw [this]; exact h0
    have h13 := c13 (k := (k : Int)) H.length HX hAX
    have hv1 : finV k xs bs = ((boundV k xs bs).1, (boundV k xs bs).2, 0) := by unfold finV; rw [if_pos h0, Int.toNat_natCast]
    have hv2 : finV k xs (bs.map (!·)) = ((boundV k xs (bs.map (!·))).1, (boundV k xs (bs.map (!·))).2, 0) := by unfold finV; rw [if_pos hcx, Int.toNat_natCast]
    rw [hv1] at h13
    obtain ⟨H1, p1, p2, p3⟩ := pump_new (H := HX) (prot := H.length) (by omega) (boundV k xs bs).2
    have l1 := p3.1
    have lp2 := (List.getElem?_eq_some_iff.1 p2).1
    have h18 := c18 (k := (k : Int)) H.length H1 (hAX.stay p3)
    rw [hv2] at h18
    obtain ⟨H2, q1, q2, q3⟩ := pump_new (H := H1) (prot := H.length) (by omega) (boundV k xs (bs.map (!·))).2
    have hg1 : H1[H.length]? = some (bx k vN vA) := by rw [p3.2 _ (by omega) (by simp)]; exact hgX
    have hg2 : H2[H.length]? = some (bx k vN vA) := by rw [q3.2 _ (by omega) (by simp)]; exact hg1
    have a2 : H2[HX.length]? = _ := (q3.2 _ lp2 (by simp)).trans p2
    have hA2 := hAX.stay (p3.trans q3)
    have hk := cKnows H.length HX
    have hfin : (boundV k xs bs).1 = false → callInf cfg 22 [av k vN vA, pv (boundV k xs bs).2, .int .i64 ((x1.tmod 100 + 100).tmod 100), .bool true] H.length H2 = some (.bool true, H2) := fun hb => by
      obtain ⟨p, q, r, e, w1, w2, w3, w4, w5, w6, w7, w8⟩ := pump_words hG hb
      have := c22 hG h0 w1 w2 w3 w4 w5 w6 w7 hml true H.length H2 hA2
      rw [w8 m] at this
      rw [e, hm]
      exact this
    have hcof : (boundV k xs (bs.map (!·))).1 = false → callInf cfg 22 [av k vN vA, pv (boundV k xs (bs.map (!·))).2, .int .i64 ((x1.tmod 100 + 100).tmod 100), .bool false] H.length H2 = some (.bool true, H2) := fun hb => by
      obtain ⟨p, q, r, e, w1, w2, w3, w4, w5, w6, w7, w8⟩ := pump_words hG.not hb
      have := c22 hG h0 w1 w2 w3 w4 w5 w6 w7 hml false H.length H2 hA2
      rw [bnot hG (wk_app w1 (wk_app (pw_wk w2 m) w3)) (w8 m)] at this
      rw [e, hm]
      exact this
    obtain ⟨aN, cN, rfl⟩ := hA.n.len
    obtain ⟨aA, cA, rfl⟩ := hA.a.len
    obtain ⟨_, _, _, gX⟩ := fld3 hgX
    obtain ⟨_, _, _, f1⟩ := fld3 hg1
    obtain ⟨_, _, _, f2⟩ := fld3 hg2
    obtain ⟨_, _, _, fa⟩ := fld3 a2
    obtain ⟨_, _, _, fb⟩ := fld3 q2
    have hz : Fit .i64 ((0 : Int) + 0) := fit64 (by omega) (by omega)
    cases hb : (boundV k xs bs).1 with
    | true =>
      cases hc : (boundV k xs (bs.map (!·))).1 with
      | true => exact (not_both hG hb hc).elim
      | false =>
        have hx := hcof hc
        have he := bound_true hb
        rw [hb] at h13
        rw [hc] at h18
        have hne := pv_ne (ByteArray.empty, ByteArray.empty, ByteArray.empty)
        rw [he] at fa p1 h13
        subst hHX
        exact f6_F_3 all3 gX hck rfl hk rfl gX h13 rfl p1 f1 h18 rfl q1 f15_F_0 f15_F_0 hz rfl rfl rfl fa hne rfl hfit f2 fb hx
    | false =>
      have hx := hfin hb
      rw [hb] at h13
      cases hc : (boundV k xs (bs.map (!·))).1 with
      | true =>
        have he := bound_true hc
        rw [hc] at h18
        have hne := pv_ne (ByteArray.empty, ByteArray.empty, ByteArray.empty)
        rw [he] at fb q1 h18
        subst hHX
        exact f6_F_5 all3 gX hck rfl hk rfl gX h13 rfl p1 f1 h18 rfl q1 f15_F_0 f15_F_0 hz rfl rfl rfl fb hne rfl hfit f2 fa hx rfl
      | false =>
        have hy := hcof hc
        rw [hc] at h18
        subst hHX
        exact f6_F_7 all3 gX hck rfl hk rfl gX h13 rfl p1 f1 h18 rfl q1 f15_F_0 f15_F_0 hz rfl rfl rfl hfit f2 fa hx rfl f2 fb hy
  · rw [decide_eq_false h0] at hck
    have hk := cKnows H.length HX
    obtain ⟨aN, cN, rfl⟩ := hA.n.len
    obtain ⟨aA, cA, rfl⟩ := hA.a.len
    obtain ⟨_, _, _, gX⟩ := fld3 hgX
    subst hHX
    first
    | exact f6_F_9 all3 gX hck rfl hk
    | exact f6_F_10 all3 gX hck rfl hk
end Go.Proofs.Ythjkodbinkiifaa.Am23
