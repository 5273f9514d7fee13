/- An evaluator of calls: structs of two numbers are compared. -/
import Derived.Test.YtedipingocmmdaaGreatEvS3
namespace Go.Proofs.YtedipingocmmdaaGreat.Ev
open Go
section
variable {P : Program}
theorem equal_int {t : TypeId} {k0 k : IntKind} {a b : Int} {d : Nat} {w : World} (ht : P.underlying t = some (.int k0)) : (Op.equalIn (d + 1) t (.int k a) (.int k b)).run P w = .ok (a == b) w := by
  unfold Op.equalIn
  rw [run_bind (run_underlying ht)]
  simp only [if_true]
  rfl
theorem agg_int {t : TypeId} {k0 : IntKind} (ht : P.underlying t = some (.int k0)) : aggT P t = some false := by
  unfold aggT; rw [ht]; rfl
theorem part_at {t : TypeId} {k0 : IntKind} {cs : Array Value} {o : Nat} {v : Value} {w : World} (ht : P.underlying t = some (.int k0)) (h : cs[o]? = some v) : (part t cs o).run P w = .ok v w := by
  unfold part
  rw [run_bind (run_isAgg (agg_int ht)), if_neg (by simp), h]
  rfl
theorem equal_two {t : TypeId} {f0 f1 : Field} {k0 k1 k2 j2 : IntKind} {a1 a2 b1 b2 : Int} {w : World} (ht : P.underlying t = some (.struct #[f0, f1])) (ho0 : f0.offset = 0) (ho1 : f1.offset = 1) (hn0 : f0.name ≠ "_") (hn1 : f1.name ≠ "_")
    (h0 : P.underlying f0.type = some (.int k0)) (h1 : P.underlying f1.type = some (.int j2)) (hs : P.stoodInHeld t = false) :
    (Op.equal t (.agg #[.int k1 a1, .int k2 a2]) (.agg #[.int k1 b1, .int k2 b2])).run P w = .ok (a1 == b1 && a2 == b2) w := by
  show (Op.equalIn (9999 + 1) t _ _).run P w = _
  unfold Op.equalIn
  rw [run_bind (run_underlying ht)]
  show ((program : Sem Program) >>= _).run P w = _
  rw [run_bind (show (program : Sem Program).run P w = .ok P w from rfl), hs]
  simp only [Bool.false_eq_true, if_false, List.forIn_toArray, List.forIn_cons, List.forIn_nil, ho0, ho1, ne_eq, hn0, hn1, not_false_eq_true, if_true]
  refine (run_bind (w1 := w) (x := if (a1 == b1 && a2 == b2) then ((none : Option Bool), ()) else (some false, ())) ?_).trans ?_
  · refine (run_bind (w1 := w) (x := if a1 == b1 then ForInStep.yield ((none : Option Bool), ()) else .done (some false, ())) ?_).trans ?_
    · rw [run_bind (part_at (v := .int k1 a1) h0 rfl), run_bind (part_at (v := .int k1 b1) h0 rfl), run_bind (equal_int (d := 9998) h0)]
      cases a1 == b1 <;> rfl
    · cases a1 == b1
      · rfl
      · refine (run_bind (w1 := w) (x := if a2 == b2 then ForInStep.yield ((none : Option Bool), ()) else .done (some false, ())) ?_).trans ?_
        · rw [run_bind (part_at (v := .int k2 a2) h1 rfl), run_bind (part_at (v := .int k2 b2) h1 rfl), run_bind (equal_int (d := 9998) h1)]
          cases a2 == b2 <;> rfl
        · cases a2 == b2 <;> rfl
  · cases a1 == b1 <;> cases a2 == b2 <;> rfl
theorem eqK_beq (a b : Int) : eqK a b = (a == b) := by
  cases a with
  | ofNat m => cases b with
    | ofNat n =>
      show Nat.beq m n = _
      rcases beq_cases m n with ⟨e, h⟩ | ⟨e, h⟩
      · rw [e, h]; simp
      · rw [e]; symm; rw [beq_eq_false_iff_ne]; intro hc; exact h (Int.ofNat.inj hc)
    | negSucc n => symm; exact beq_eq_false_iff_ne.mpr fun hc => by cases hc
  | negSucc m => cases b with
    | ofNat n => symm; exact beq_eq_false_iff_ne.mpr fun hc => by cases hc
    | negSucc n =>
      show Nat.beq m n = _
      rcases beq_cases m n with ⟨e, h⟩ | ⟨e, h⟩
      · rw [e, h]; simp
      · rw [e]; symm; rw [beq_eq_false_iff_ne]; intro hc; exact h (Int.negSucc.inj hc)
theorem two_ok {l : List Value} {k : Value → Value → M Value} {g : Bool} {c : Nat} {H : Mem} {l0 : Log} {y : Value} {c' : Nat} {H' : Mem} {l' : Log} (h : two l .fail k g c H l0 = .ok y c' H' l') : ∃ u v, l = [u, v] ∧ k u v g c H l0 = .ok y c' H' l' := by
  rcases l with _ | ⟨u, _ | ⟨v, _ | ⟨z, r⟩⟩⟩ <;> first | cases h | exact ⟨_, _, rfl, h⟩
theorem aggv_ok {v : Value} {k : Array Value → M Value} {g : Bool} {c : Nat} {H : Mem} {l0 : Log} {y : Value} {c' : Nat} {H' : Mem} {l' : Log} (h : onAgg v .fail k g c H l0 = .ok y c' H' l') : ∃ cs, v = .agg cs ∧ k cs g c H l0 = .ok y c' H' l' := by
  cases v <;> first | cases h | exact ⟨_, rfl, h⟩
/-- A struct of two numbers. -/
structure PairT (P : Program) (t : TypeId) : Prop where
  is : ∃ (f0 f1 : Field) (k0 j2 : IntKind), P.underlying t = some (.struct #[f0, f1]) ∧ f0.offset = 0 ∧ f1.offset = 1 ∧ f0.name ≠ "_" ∧ f1.name ≠ "_" ∧ P.underlying f0.type = some (.int k0) ∧ P.underlying f1.type = some (.int j2)
  plain : P.stoodInHeld t = false
  calm : P.eqGuardType P.depth t = false
theorem s_eq2 {o : Oper} {op : BinOp} {t u : TypeId} {x y : Operand} {neg : Bool} (ho : o.op = .binOp op t x y u) (hop : op = if neg then .neq else .eql) (ht : PairT P t) : SoundO P (oEq2 neg x y) o := by
  intro e cl a base w0 ρ U H w g c l v c' H' l' hx hR _ h
  obtain ⟨p, hp, h⟩ := aggv_ok h
  obtain ⟨q, hq, h⟩ := aggv_ok h
  obtain ⟨p⟩ := p
  obtain ⟨q⟩ := q
  obtain ⟨u1, u2, e1, h⟩ := two_ok (show (two p M.fail _ : M Value) g c H l = .ok v c' H' l' from h)
  obtain ⟨v1, v2, e2, h⟩ := two_ok (show (two q M.fail _ : M Value) g c H l = .ok v c' H' l' from h)
  replace h : onInt u1 M.fail (fun k1 a1 => onInt u2 M.fail fun k2 a2 => onInt v1 M.fail fun j1 b1 => onInt v2 M.fail fun j2 b2 => M.iff (andK (sameK k1 j1) (sameK k2 j2)) (M.ret (.bool (xor neg (andK (eqK a1 b1) (eqK a2 b2)))))) g c H l = .ok v c' H' l' := h
  obtain ⟨k1, a1, r1, h⟩ := int_ok h
  obtain ⟨k2, a2, r2, h⟩ := int_ok h
  obtain ⟨j1, b1, r3, h⟩ := int_ok h
  obtain ⟨j2, b2, r4, h⟩ := int_ok h
  obtain ⟨hk, h⟩ := iff_ok h
  obtain ⟨hk1, hk2⟩ := andK_true hk
  obtain ⟨rfl, rfl, rfl, rfl⟩ := ret_ok h
  have hk1 := (sameK_eq hk1).1
  have hk2 := (sameK_eq hk2).1
  subst hk1 hk2 r1 r2 r3 r4 e1 e2
  rw [ho] at hx
  have h1 := (hx x (by simp [Op.operands])).1
  have h2 := (hx y (by simp [Op.operands])).1
  rw [hp] at h1
  rw [hq] at h2
  refine goes_same hR trivial ?_
  unfold execOp
  rw [ho]
  have h1 : a.eval x = .agg #[.int k1 a1, .int k2 a2] := h1
  have h2 : a.eval y = .agg #[.int k1 b1, .int k2 b2] := h2
  simp only [h1, h2]
  obtain ⟨⟨f0, f1, i0, i1, g1, g2, g3, g4, g5, g6, g7⟩, hs, hc⟩ := ht
  have hg : (eqGuard op t x y (.agg #[.int k1 a1, .int k2 a2]) (.agg #[.int k1 b1, .int k2 b2])).run P w = .ok () w := by
    unfold eqGuard
    subst hop
    have key : ((program : Sem Program) >>= fun p => (program : Sem Program) >>= fun q => (if (!(p.eqGuardType q.depth t)) = true then (pure PUnit.unit : Sem PUnit) else (Op.eqGuardIn Op.maxDepth t (.agg #[.int k1 a1, .int k2 a2]) (.agg #[.int k1 b1, .int k2 b2]) >>= fun r => if r = true then unsupported (.noEntry "binop/eql: two nil values of an interface type with methods, in a part of a struct or an array") else pure PUnit.unit))).run P w = .ok () w := by
      rw [run_bind (show (program : Sem Program).run P w = .ok P w from rfl), run_bind (show (program : Sem Program).run P w = .ok P w from rfl), hc]
      rfl
    cases neg
    · exact key
    · exact key
  have he := equal_two (w := w) (a1 := a1) (a2 := a2) (b1 := b1) (b2 := b2) (k1 := k1) (k2 := k2) g1 g2 g3 g4 g5 g6 g7 hs
  refine run_value ?_
  rw [run_bind hg]
  rw [eqK_beq, eqK_beq, show andK (a1 == b1) (a2 == b2) = (a1 == b1 && a2 == b2) by cases a1 == b1 <;> rfl]
  subst hop
  cases neg
  · show (Op.equal t (.agg #[.int k1 a1, .int k2 a2]) (.agg #[.int k1 b1, .int k2 b2]) >>= fun r => pure (Value.bool r)).run P w = _
    rw [run_bind he]
    simp [pure]
    rfl
  · show (Op.equal t (.agg #[.int k1 a1, .int k2 a2]) (.agg #[.int k1 b1, .int k2 b2]) >>= fun r => pure (Value.bool (!r))).run P w = _
    rw [run_bind he]
    simp [pure]
    rfl
end
end Go.Proofs.YtedipingocmmdaaGreat.Ev

