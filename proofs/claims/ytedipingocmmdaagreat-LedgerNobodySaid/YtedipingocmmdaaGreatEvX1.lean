/- An evaluator of calls: an operation in its place, in a frame. -/
import Derived.Test.YtedipingocmmdaaGreatEvW
namespace Go.Proofs.YtedipingocmmdaaGreat.Ev
open Go Go.RowKit

/-- Calls go as the program's do. -/
def CallsOk (P : Program) (cl : CL) : Prop := ∀ (f : Nat) (args : List Value) (g : Bool) (c : Nat) (H : Mem) (l : Log) (v : Value) (c' : Nat) (H' : Mem) (l' : Log) (base : Nat) (w0 w : World) (ρ : Nat → Loc) (U : Nat → Prop),
  (∀ x ∈ args, Ok ρ U x) → Rel P base w0 ρ U H w → (∀ n, c ≤ n → n < c' → ¬ U n) → cl f args g c H l = .ok v c' H' l' →
    (∀ w' : World, ∀ as : Array Value, (callFunc f as).run P w' = .ok (.enter f as) w') ∧
    Calls P f (args.map (ren ρ)).toArray w fun e w' => ∃ ρ' U', More ρ U ρ' U' ∧ (∀ j, U' j → U j ∨ (c ≤ j ∧ j < c')) ∧ Rel P base w0 ρ' U' H' w' ∧ Ok ρ' U' v ∧ e = .returned (ren ρ' v)
/-- An operation, or a call, goes as the program's does. -/
def SoundS (P : Program) (cl : CL) (op : Opn) (o : Oper) : Prop :=
  ∀ (e : Operand → Value) (a : Act) (base : Nat) (w0 : World) (ρ : Nat → Loc) (U : Nat → Prop) (H : Mem) (w : World) (g : Bool) (c : Nat) (l : Log) (v : Value) (c' : Nat) (H' : Mem) (l' : Log),
    Opnds ρ U e a o.op.operands.toList → Rel P base w0 ρ U H w → (∀ n, c ≤ n → n < c' → ¬ U n) → op e cl g c H l = .ok v c' H' l' →
    ∀ (K : Act → World → Prop) (Q : Exit → Act → World → Prop), (∀ ρ' U' w', More ρ U ρ' U' → (∀ j, U' j → U j ∨ (c ≤ j ∧ j < c')) → Rel P base w0 ρ' U' H' w' → Ok ρ' U' v → K (a.put o.dst (ren ρ' v)) w') → o.wp P a w K Q
section
variable {P : Program} {cl : CL}
theorem soundS_of {op : Opn} {o : Oper} (h : SoundO P op o) : SoundS P cl op o := by
  intro e a base w0 ρ U H w g c l v c' H' l' hx hR hU hr K Q hK
  obtain ⟨ρ', U', w', nx, h1, h2, h3, h4, h5, h6⟩ := h e cl a base w0 ρ U H w g c l v c' H' l' hx hR hU hr
  unfold Oper.wp
  rw [h5]
  rcases h6 with rfl | ⟨rfl, rfl⟩
  · exact hK ρ' U' w' h1 h2 h3 h4
  · exact hK ρ' U' w' h1 h2 h3 h4
theorem s_bad {o : Oper} : SoundS P cl oBad o := by
  intro e a base w0 ρ U H w g c l v c' H' l' _ _ _ hr
  cases hr
theorem s_call (hcl : CallsOk P cl) {o : Oper} {cc : Call} {f : Operand} (ho : o.op = .call cc) (hc : cc.callee = .value f) : SoundS P cl (oCall f cc.args.toList) o := by
  intro e a base w0 ρ U H w g c l v c' H' l' hx hR hU hr K Q hK
  rw [ho] at hx
  have hxf := hx f (by simp [Op.operands, Call.operands, hc])
  have hxa : ∀ y ∈ cc.args.toList, a.eval y = ren ρ (e y) ∧ Ok ρ U (e y) := fun y hy => hx y (by
    simp only [Op.operands, Call.operands, hc, Array.toList_append]
    exact List.mem_append_right _ hy)
  unfold oCall at hr
  generalize e f = F at *
  cases F with
  | func fn p q =>
    cases fn with
    | func fid =>
      obtain ⟨p⟩ := p
      obtain ⟨q⟩ := q
      replace hr : cl fid (appK p (appK (mapK e cc.args.toList) q)) g c H l = .ok v c' H' l' := hr
      rw [appK_eq, appK_eq, mapK_eq] at hr
      obtain ⟨hf1, hf2⟩ := hxf
      have hp : ∀ x ∈ p, Ok ρ U x := (okL_eq ρ U p).mp hf2.1
      have hq : ∀ x ∈ q, Ok ρ U x := (okL_eq ρ U q).mp hf2.2
      obtain ⟨h1, h2⟩ := hcl fid _ g c H l v c' H' l' base w0 w ρ U (fun x hx => by
        rcases List.mem_append.mp hx with hx | hx
        · exact hp x hx
        · rcases List.mem_append.mp hx with hx | hx
          · obtain ⟨y, hy, rfl⟩ := List.mem_map.mp hx; exact (hxa y hy).2
          · exact hq x hx) hR hU hr
      have hargs : ((#[] : Array Value) ++ ((⟨renL ρ p⟩ : Array Value) ++ cc.args.map a.eval)) ++ (⟨renL ρ q⟩ : Array Value) = ((p ++ (cc.args.toList.map e ++ q)).map (ren ρ)).toArray := by
        apply Array.toList_inj.mp
        simp only [Array.toList_append, Array.toList_map, renL_eq, List.map_append, List.map_map]
        have : cc.args.toList.map a.eval = cc.args.toList.map (ren ρ ∘ e) := List.map_congr_left fun y hy => (hxa y hy).1
        rw [this]
        simp
      have hres : (execOp a.eval o).run P w = .ok (.enter fid ((p ++ (cc.args.toList.map e ++ q)).map (ren ρ)).toArray) w := by
        unfold execOp
        rw [ho]
        simp only
        have hr1 : (resolve a.eval cc o.type).run P w = .ok { target := .fn (.func fid) ⟨renL ρ q⟩, args := ⟨renL ρ p⟩ ++ cc.args.map a.eval } w := by
          unfold resolve
          rw [hc]
          simp only [hf1]
          rfl
        rw [run_bind hr1]
        show (callFunc fid ((⟨renL ρ p⟩ ++ cc.args.map a.eval) ++ ⟨renL ρ q⟩)).run P w = _
        rw [h1]
        rw [← hargs]
        simp
      unfold Oper.wp
      rw [hres, Oper.upon_enter]
      refine h2.mono ?_
      rintro e1 w1 ⟨ρ', U', k1, k2, k3, k4, rfl⟩
      exact hK ρ' U' w1 k1 k2 k3 k4
    | _ => cases hr
  | _ => cases hr

/-- A frame. -/
structure Frm (ρ : Nat → Loc) (U : Nat → Prop) (n : Nat) (τ : Nat → Option Value) (a : Act) : Prop where
  val : ∀ t, a.tmps.getD t undef = ren ρ ((τ t).getD undef)
  ok : ∀ t v, τ t = some v → Ok ρ U v
  size : n ≤ a.tmps.size
  defers : a.defers = []
theorem Frm.more {ρ ρ' : Nat → Loc} {U U' : Nat → Prop} {n : Nat} {τ : Nat → Option Value} {a : Act} (hm : More ρ U ρ' U') (h : Frm ρ U n τ a) : Frm ρ' U' n τ a where
  val := fun t => by
    rw [h.val t]
    cases ht : τ t with
    | none => rfl
    | some v => exact ((ok_more hm v (h.ok t v ht)).2).symm
  ok := fun t v ht => (ok_more hm v (h.ok t v ht)).1
  size := h.size
  defers := h.defers
theorem Frm.put {ρ : Nat → Loc} {U : Nat → Prop} {n : Nat} {τ τ' : Nat → Option Value} {a : Act} {d : Option Nat} {v : Value} (h : Frm ρ U n τ a) (hd : dstOk n d = true) (hv : Ok ρ U v) (hτ : ∀ j, τ' j = if d = some j then some v else τ j) : Frm ρ U n τ' (a.put d (ren ρ v)) where
  val := fun t => by
    rw [hτ]
    cases d with
    | none => rw [if_neg (by simp)]; exact h.val t
    | some d =>
      have hlt : d < n := by
        rcases blt_cases d n with ⟨_, h2⟩ | ⟨h1, _⟩
        · exact h2
        · rw [show dstOk n (some d) = Nat.blt d n from rfl, h1] at hd; cases hd
      show (a.tmps.setIfInBounds d (ren ρ v)).getD t undef = _
      by_cases e : d = t
      · subst e
        rw [if_pos rfl]
        have := h.size
        simp [Array.getD, show d < a.tmps.size by omega]
      · rw [if_neg (by intro h; injection h with h; exact e h)]
        rw [← h.val t]
        simp only [Array.getD_eq_getD_getElem?, Array.getElem?_setIfInBounds_ne e]
  ok := fun t u ht => by
    rw [hτ] at ht
    by_cases e : d = some t
    · rw [if_pos e] at ht; injection ht with ht; rw [← ht]; exact hv
    · rw [if_neg e] at ht; exact h.ok t u ht
  size := by
    cases d with
    | none => exact h.size
    | some d => show n ≤ (a.tmps.setIfInBounds d _).size; rw [Array.size_setIfInBounds]; exact h.size
  defers := by cases d <;> exact h.defers
theorem Frm.eval {ρ : Nat → Loc} {U : Nat → Prop} {n : Nat} {T : Trie Value} {a : Act} (h : Frm ρ U n T.get a) {x : Operand} (hx : plainO x = true) : a.eval x = ren ρ (evalO T x) ∧ Ok ρ U (evalO T x) := by
  cases x with
  | tmp t =>
    show a.tmps.getD t undef = ren ρ (Option.rec undef (fun v => v) (T.get t)) ∧ Ok ρ U (Option.rec undef (fun v => v) (T.get t))
    rw [h.val t]
    cases ht : T.get t with
    | none => exact ⟨rfl, trivial⟩
    | some v => exact ⟨rfl, h.ok t v ht⟩
  | const v =>
    obtain ⟨h1, h2, -⟩ := flat_ren (ρ := ρ) (U := U) (v := v) hx
    exact ⟨h1.symm, h2⟩
  | global g => cases hx
  | func f => exact ⟨rfl, trivial, trivial⟩
theorem Frm.wanted {ρ : Nat → Loc} {U : Nat → Prop} {n : Nat} {T : Trie Value} {a : Act} (h : Frm ρ U n T.get a) {ops : Array Oper} {o : Oper} {g : Option (Nat × Bool)} (hg : guardOf ops o = some g) : Region.wanted o (yielded ops a.tmps) = wantedT T g := by
  unfold guardOf at hg
  unfold Region.wanted
  cases ho : o.guard with
  | none =>
    rw [ho] at hg
    injection hg with hg
    subst hg
    rfl
  | some p =>
    obtain ⟨j, b⟩ := p
    rw [ho] at hg
    simp only at hg ⊢
    cases hd : (ops[j]?).bind (·.dst) with
    | none => rw [hd] at hg; cases hg
    | some d =>
      rw [hd] at hg
      injection hg with hg
      subst hg
      show (yielded ops a.tmps j == some b) = Option.rec false (fun v => onBool v false fun c => c == b) (T.get d)
      have hv := h.val d
      have hy : yielded ops a.tmps j = match a.tmps[d]? with | some (.bool b) => some b | _ => none := by
        unfold yielded
        rw [hd]
        rfl
      rw [hy]
      rw [Array.getD_eq_getD_getElem?] at hv
      cases ht : T.get d with
      | none =>
        rw [ht] at hv
        cases hq : a.tmps[d]? with
        | none => rfl
        | some q =>
          rw [hq] at hv
          have hv : q = undef := hv
          subst hv
          rfl
      | some u =>
        rw [ht] at hv
        cases hq : a.tmps[d]? with
        | none =>
          rw [hq] at hv
          have hv : undef = ren ρ u := hv
          cases u <;> first | rfl | (exfalso; cases hv)
        | some q =>
          rw [hq] at hv
          have hv : q = ren ρ u := hv
          subst hv
          cases u with
          | bool c => show (some c == some b) = (c == b); cases c <;> cases b <;> rfl
          | pointer x => cases x <;> rfl
          | slice x _ _ => cases x <;> rfl
          | agg x => cases x; rfl
          | tuple x => cases x; rfl
          | func _ x y => cases x; cases y; rfl
          | _ => rfl
/-- What an operation of a region is to be. -/
structure SOk (P : Program) (cl : CL) (n : Nat) (ops : Array Oper) (o : Oper) (s : SOper) : Prop where
  dst : s.dst = o.dst
  dok : dstOk n o.dst = true
  guard : guardOf ops o = some s.guard
  plain : ∀ x ∈ o.op.operands.toList, plainO x = true
  sound : SoundS P cl s.op o
theorem op_wp {n : Nat} {ops : Array Oper} {i : Nat} {o : Oper} {s : SOper} (hi : ops[i]? = some o) (hs : SOk P cl n ops o s) {T : Trie Value} {a : Act} {base : Nat} {w0 w : World} {ρ : Nat → Loc} {U : Nat → Prop} {H : Mem} {g : Bool} {c : Nat} {l : Log} {v : Value} {c' : Nat} {H' : Mem} {l' : Log} {τ' : Nat → Option Value}
    (hF : Frm ρ U n T.get a) (hR : Rel P base w0 ρ U H w) (hU : ∀ n, c ≤ n → n < c' → ¬ U n) (hr : evVal cl T s g c H l = .ok v c' H' l') (hτ : ∀ j, τ' j = if s.dst = some j then some v else T.get j) {K : Act → World → Prop} {Q : Exit → Act → World → Prop}
    (hK : ∀ ρ' U' a' w', More ρ U ρ' U' → (∀ j, U' j → U j ∨ (c ≤ j ∧ j < c')) → Rel P base w0 ρ' U' H' w' → Frm ρ' U' n τ' a' → K a' w') : wpOp P ops Q i K a w := by
  unfold wpOp
  rw [hi]
  simp only
  rw [hF.wanted hs.guard]
  unfold evVal at hr
  cases hw : wantedT T s.guard with
  | false =>
    rw [hw] at hr
    obtain ⟨rfl, rfl, rfl, rfl⟩ := ret_ok (show M.ret undef g c H l = .ok v c' H' l' from hr)
    rw [if_neg (by simp)]
    exact hK ρ U _ w .refl (fun _ h => .inl h) hR (hF.put (v := undef) hs.dok trivial (by rw [← hs.dst]; exact hτ))
  | true =>
    rw [hw] at hr
    rw [if_pos rfl]
    refine .inl (hs.sound (evalO T) a base w0 ρ U H w g c l v c' H' l' (fun x hx => hF.eval (hs.plain x hx)) hR hU hr K Q fun ρ' U' w' h1 h2 h3 h4 => ?_)
    exact hK ρ' U' _ w' h1 h2 h3 ((hF.more h1).put hs.dok h4 (by rw [← hs.dst]; exact hτ))
end
end Go.Proofs.YtedipingocmmdaaGreat.Ev

