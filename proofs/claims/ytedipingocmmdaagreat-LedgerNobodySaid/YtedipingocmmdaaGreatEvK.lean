/- An evaluator of calls: calls that were reckoned ahead (their arguments name no row). -/
import Derived.Test.YtedipingocmmdaaGreatEvX7
namespace Go.Proofs.YtedipingocmmdaaGreat.Ev
open Go Go.RowKit

/-- A value without places. -/
def flatA : Value → Bool
  | .agg cs => cs.toList.all flatB
  | v => flatB v
theorem flatA_of {v : Value} (h : flatA v = true) (hn : ∀ cs, v ≠ .agg cs) : flatB v = true := by
  unfold flatA at h
  split at h
  · exact absurd rfl (hn _)
  · exact h
section
variable {ρ : Nat → Loc} {U : Nat → Prop}
theorem flatA_ren {v : Value} (h : flatA v = true) : ren ρ v = v ∧ Ok ρ U v := by
  cases v with
  | agg cs =>
    obtain ⟨cs⟩ := cs
    have h : cs.all flatB = true := h
    rw [List.all_eq_true] at h
    refine ⟨?_, (okL_eq _ _ _).mpr fun v hv => (flat_ren (ρ := ρ) (U := U) (h v hv)).2.1, fun v hv => (flat_ren (ρ := ρ) (U := U) (h v hv)).2.2⟩
    show Value.agg ⟨renL ρ cs⟩ = _
    rw [renL_eq]
    congr 2
    conv => rhs; rw [← List.map_id cs]
    exact List.map_congr_left fun v hv => (flat_ren (ρ := ρ) (U := U) (h v hv)).1
  | _ =>
    have h := flatA_of h (fun cs hc => by cases hc)
    exact ⟨(flat_ren (ρ := ρ) (U := U) h).1, (flat_ren (ρ := ρ) (U := U) h).2.1⟩
theorem flatL_ren {l : List Value} (h : l.all flatA = true) : l.map (ren ρ) = l ∧ ∀ x ∈ l, Ok ρ U x := by
  rw [List.all_eq_true] at h
  refine ⟨?_, fun v hv => (flatA_ren (ρ := ρ) (U := U) (h v hv)).2⟩
  conv => rhs; rw [← List.map_id l]
  exact List.map_congr_left fun v hv => (flatA_ren (ρ := ρ) (U := U) (h v hv)).1
end
/-! ### Equal values -/
theorem eqK_same {a b : Int} (h : eqK a b = true) : a = b := by
  cases a with
  | ofNat m => cases b with
    | ofNat n => exact congrArg Int.ofNat (beq_true (show Nat.beq m n = true from h))
    | negSucc n => cases h
  | negSucc m => cases b with
    | ofNat n => cases h
    | negSucc n => exact congrArg Int.negSucc (beq_true (show Nat.beq m n = true from h))
theorem eqA_eq {a b : Addr} (h : eqA a b = true) : a = b := by
  obtain ⟨b1, o1, s1⟩ := a
  obtain ⟨b2, o2, s2⟩ := b
  cases s1 with
  | some _ => cases h
  | none => cases s2 with
    | some _ => cases h
    | none =>
      obtain ⟨h1, h2⟩ := andK_true (show andK (Nat.beq b1 b2) (Nat.beq o1 o2) = true from h)
      rw [beq_true h1, beq_true h2]
theorem eqOA_eq {a b : Option Addr} (h : eqOA a b = true) : a = b := by
  cases a <;> cases b <;> first | rfl | cases h | exact congrArg some (eqA_eq h)
theorem eqV1_eq {v u : Value} (h : eqV1 v u = true) : v = u := by
  cases v with
  | bool a => cases u <;> first | (rw [beq_iff_eq.mp (show (a == _) = true from h)]) | cases h
  | int k a => cases u with
    | int j b =>
      obtain ⟨h1, h2⟩ := andK_true (show andK (sameK k j) (eqK a b) = true from h)
      rw [(sameK_eq h1).1, eqK_same h2]
    | _ => cases h
  | pointer a => cases u with
    | pointer b => rw [eqOA_eq (show eqOA a b = true from h)]
    | _ => cases h
  | slice a n c => cases u with
    | slice b m d =>
      obtain ⟨h1, h2⟩ := andK_true (show andK (eqOA a b) (andK (Nat.beq n m) (Nat.beq c d)) = true from h)
      obtain ⟨h2, h3⟩ := andK_true h2
      rw [eqOA_eq h1, beq_true h2, beq_true h3]
    | _ => cases h
  | _ => cases h
theorem eqL1_eq : ∀ {a b : List Value}, eqL1 a b = true → a = b
  | [], [], _ => rfl
  | [], _ :: _, h => by cases h
  | _ :: _, [], h => by cases h
  | x :: r, y :: s, h => by
    obtain ⟨h1, h2⟩ := andK_true (show andK (eqV1 x y) (eqL1 r s) = true from h)
    rw [eqV1_eq h1, eqL1_eq h2]
theorem eqV_eq {v u : Value} (h : eqV v u = true) : v = u := by
  cases v with
  | agg a => cases u with
    | agg b =>
      obtain ⟨a⟩ := a
      obtain ⟨b⟩ := b
      rw [eqL1_eq (show eqL1 a b = true from h)]
    | _ => cases h
  | _ => exact eqV1_eq h
theorem eqL_eq : ∀ {a b : List Value}, eqL a b = true → a = b
  | [], [], _ => rfl
  | [], _ :: _, h => by cases h
  | _ :: _, [], h => by cases h
  | x :: r, y :: s, h => by
    obtain ⟨h1, h2⟩ := andK_true (show andK (eqV x y) (eqL r s) = true from h)
    rw [eqV_eq h1, eqL_eq h2]

/-! ### What is known -/
noncomputable def knownF (ks : List (List Value × Value)) (args : List Value) (m : M Value) : M Value :=
  List.rec m (fun k _ ih => Prod.rec (fun a v => Bool.rec ih (M.ret v) (eqL a args)) k) ks
noncomputable def evK (F : Trie EFunc) (K : Nat → List (List Value × Value)) (d : Nat) : CL :=
  Nat.rec (fun _ _ => .fail) (fun _ ih f args => knownF (K f) args (enterF F ih f args)) d
theorem known_cases (ks : List (List Value × Value)) (args : List Value) (m : M Value) : (∃ v, (args, v) ∈ ks ∧ knownF ks args m = M.ret v) ∨ knownF ks args m = m := by
  induction ks with
  | nil => exact .inr rfl
  | cons k r ih =>
    obtain ⟨a, v⟩ := k
    have e0 : knownF ((a, v) :: r) args m = (Bool.rec (knownF r args m) (M.ret v) (eqL a args) : M Value) := rfl
    cases e : eqL a args with
    | true =>
      rw [e] at e0
      exact .inl ⟨v, by rw [eqL_eq e]; exact List.mem_cons_self .., e0⟩
    | false =>
      rw [e] at e0
      rcases ih with ⟨u, h1, h2⟩ | h
      · exact .inl ⟨u, List.mem_cons_of_mem _ h1, e0.trans h2⟩
      · exact .inr (e0.trans h)
/-- A call was reckoned ahead. -/
structure KnOk (P : Program) (f : Nat) (args : List Value) (v : Value) : Prop where
  tab : ∃ E, TabAt P f E
  flat : args.all flatA = true
  val : flatA v = true
  call : ∀ w : World, Calls P f args.toArray w fun e w' => e = .returned v ∧ Below w.heap.size w w'
section
variable {P : Program}
theorem Rel.kept {base : Nat} {w0 w w' : World} {ρ : Nat → Loc} {U : Nat → Prop} {H : Mem} (h : Rel P base w0 ρ U H w) (hb : Below w.heap.size w w') : Rel P base w0 ρ U H w' where
  old := h.old.trans (hb.mono h.top)
  top := Nat.le_trans h.top hb.size
  at_ := fun n hn => ⟨(h.at_ n hn).1, Nat.lt_of_lt_of_le (h.at_ n hn).2 hb.size⟩
  inj := h.inj
  live := h.live
  low := h.low
  row := fun n b hn => (h.row n b hn).more .refl (hb.block _ (h.at_ n (h.live n b hn)).2)
theorem enter_run {f : Nat} {E : EFunc} (h : TabAt P f E) (w' : World) (as : Array Value) : (callFunc f as).run P w' = .ok (.enter f as) w' := by
  obtain ⟨fn, hfn, hE, hname⟩ := h
  unfold compileF at hE
  cases hb : fn.body with
  | none => rw [hb] at hE; cases hE
  | some code =>
    unfold callFunc
    show (program >>= _).run P w' = _
    rw [run_bind (show (program).run P w' = .ok P w' from rfl)]
    simp only [hfn, hname, hb]
    rfl
theorem frC_tab {F : Trie EFunc} (hF : TabOk P F) : ∀ f E, F.get f = some E → FrC E.body := fun f E h => by
  obtain ⟨fn, _, hE, _⟩ := hF f E h
  unfold compileF at hE
  split at hE
  · split at hE
    · rename_i hc _
      injection hE with hE; subst hE
      exact (code_ok _ _ hc).1
    · cases hE
  · cases hE
theorem fr_evK {F : Trie EFunc} (hF : TabOk P F) {K : Nat → List (List Value × Value)} : ∀ d f l, Framed (evK F K d f l)
  | 0, _, _ => .fail
  | d + 1, f, l => by
    show Framed (knownF (K f) l (enterF F (evK F K d) f l))
    rcases known_cases (K f) l (enterF F (evK F K d) f l) with ⟨v, _, h⟩ | h
    · rw [h]; exact .ret v
    · rw [h]; exact fr_enterF (frC_tab hF) (fr_evK hF d) f l
theorem evK_ok {F : Trie EFunc} (hF : TabOk P F) (hm : P.follows .mixedOrders = true) {K : Nat → List (List Value × Value)} (hK : ∀ f a v, (a, v) ∈ K f → KnOk P f a v) : ∀ d, CallsOk P (evK F K d)
  | 0 => fail_ok
  | d + 1 => by
    intro f args g c H l v c' H' l' base w0 w ρ U hargs hR hU h
    replace h : knownF (K f) args (enterF F (evK F K d) f args) g c H l = .ok v c' H' l' := h
    rcases known_cases (K f) args (enterF F (evK F K d) f args) with ⟨u, hu, e⟩ | e
    · rw [e] at h
      obtain ⟨rfl, rfl, rfl, rfl⟩ := ret_ok h
      obtain ⟨⟨E, hE⟩, ha, hv, hcall⟩ := hK f args _ hu
      refine ⟨enter_run hE, ?_⟩
      rw [(flatL_ren (ρ := ρ) (U := U) ha).1]
      refine (hcall w).mono ?_
      rintro e w' ⟨rfl, hb⟩
      obtain ⟨h1, h2⟩ := flatA_ren (ρ := ρ) (U := U) hv
      exact ⟨ρ, U, .refl, fun j hj => .inl hj, hR.kept hb, h2, by rw [h1]⟩
    · rw [e] at h
      exact enter_sound hF hm (evK_ok hF hm hK d) (fr_evK hF d) f args g c H l v c' H' l' base w0 w ρ U hargs hR hU h
/-- A call is reckoned: its arguments and its answer name no row. -/
theorem knOk_of {F : Trie EFunc} (hF : TabOk P F) {cl : CL} (hcl : CallsOk P cl) {f : Nat} {args : List Value} {v : Value} {g : Bool} {c : Nat} {H : Mem} {l : Log} (hf : ∃ E, F.get f = some E) (ha : args.all flatA = true) (hv : flatA v = true) (h : cl f args g 16 .leaf [] = .ok v c H l) : KnOk P f args v where
  tab := by obtain ⟨E, hE⟩ := hf; exact ⟨E, hF f E hE⟩
  flat := ha
  val := hv
  call := fun w => by
    obtain ⟨h1, h2⟩ := flatL_ren (ρ := fun _ => ⟨0, 0, 0⟩) (U := fun _ => False) ha
    obtain ⟨-, h3⟩ := hcl f args g 16 .leaf [] v c H l w.heap.size w w _ _ h2 (rel_start w) (fun _ _ _ h => h) h
    rw [h1] at h3
    refine h3.mono ?_
    rintro e w' ⟨ρ', U', -, -, h4, -, rfl⟩
    exact ⟨by rw [(flatA_ren (ρ := ρ') (U := U') hv).1], h4.old⟩
end
end Go.Proofs.YtedipingocmmdaaGreat.Ev

