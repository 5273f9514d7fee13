/- An evaluator of calls: calls that are known where rows hold what they hold. -/
import Derived.Test.YtedipingocmmdaaGreatEvZero
namespace Go.Proofs.YtedipingocmmdaaGreat.Ev
open Go Go.RowKit

noncomputable def sameBlk (k b : Blk) : Bool := andK (Nat.beq k.elem b.elem) (andK (k.opn == b.opn) (eqL1 k.cells b.cells))
noncomputable def readAll (rows : List (Nat × Blk)) (m : M Value) : M Value := List.rec m (fun r _ ih => M.read r.1 fun k => M.iff (sameBlk k r.2) ih) rows
noncomputable def knownR (ks : List Known) (args : List Value) (m : M Value) : M Value :=
  List.rec m (fun k _ ih => Bool.rec ih (readAll k.rows (.ret k.v)) (eqL k.args args)) ks
noncomputable def evX (F : Trie EFunc) (R : Nat → List Known) (d : Nat) : CL :=
  Nat.rec (fun _ _ => .fail) (fun _ ih f args => knownR (R f) args (enterF F ih f args)) d
theorem sameBlk_eq {k b : Blk} (h : sameBlk k b = true) : k = b := by
  obtain ⟨h1, h2⟩ := andK_true h
  obtain ⟨h2, h3⟩ := andK_true h2
  obtain ⟨e, cs, o⟩ := k
  obtain ⟨e', cs', o'⟩ := b
  have e1 : e = e' := beq_true h1
  have e2 : o = o' := beq_iff_eq.mp h2
  have e3 : cs = cs' := eqL1_eq h3
  rw [e1, e2, e3]
theorem readAll_ok : ∀ {rows : List (Nat × Blk)} {v : Value} {g : Bool} {c : Nat} {H : Mem} {l : Log} {y : Value} {c' : Nat} {H' : Mem} {l' : Log}, readAll rows (.ret v) g c H l = .ok y c' H' l' → y = v ∧ c' = c ∧ H' = H ∧ ∀ r ∈ rows, H.get r.1 = some r.2
  | [], v, g, c, H, l, y, c', H', l', h => by
    obtain ⟨h1, h2, h3, _⟩ := ret_ok (show M.ret v g c H l = .ok y c' H' l' from h)
    exact ⟨h1, h2, h3, fun r hr => by cases hr⟩
  | r :: rs, v, g, c, H, l, y, c', H', l', h => by
    obtain ⟨b, l2, hb, h⟩ := read_ok (show M.read r.1 (fun k => M.iff (sameBlk k r.2) (readAll rs (.ret v))) g c H l = .ok y c' H' l' from h)
    obtain ⟨hs, h⟩ := iff_ok h
    obtain ⟨h1, h2, h3, h4⟩ := readAll_ok h
    refine ⟨h1, h2, h3, fun x hx => ?_⟩
    rcases List.mem_cons.mp hx with rfl | hx
    · rw [hb, sameBlk_eq hs]
    · exact h4 x hx
theorem fr_readAll {m : M Value} (hm : Framed m) : ∀ rows, Framed (readAll rows m)
  | [] => hm
  | _ :: rs => .read fun _ => fr_iff (fr_readAll hm rs)
theorem knownR_cases (ks : List Known) (args : List Value) (m : M Value) : (∃ k, k ∈ ks ∧ k.args = args ∧ knownR ks args m = readAll k.rows (.ret k.v)) ∨ knownR ks args m = m := by
  induction ks with
  | nil => exact .inr rfl
  | cons k r ih =>
    have e0 : knownR (k :: r) args m = (Bool.rec (knownR r args m) (readAll k.rows (.ret k.v)) (eqL k.args args) : M Value) := rfl
    cases e : eqL k.args args with
    | true =>
      rw [e] at e0
      exact .inl ⟨k, List.mem_cons_self .., eqL_eq e, e0⟩
    | false =>
      rw [e] at e0
      rcases ih with ⟨u, h1, h2, h3⟩ | h
      · exact .inl ⟨u, List.mem_cons_of_mem _ h1, h2, e0.trans h3⟩
      · exact .inr (e0.trans h)
/-- A call is known where rows hold what they hold. -/
structure KnR (P : Program) (f : Nat) (k : Known) : Prop where
  tab : ∃ E, TabAt P f E
  val : flatA k.v = true
  call : ∀ (base : Nat) (w0 w : World) (ρ : Nat → Loc) (U : Nat → Prop) (H : Mem), Rel P base w0 ρ U H w → (∀ r ∈ k.rows, H.get r.1 = some r.2) →
    Calls P f (k.args.map (ren ρ)).toArray w fun e w' => e = .returned k.v ∧ Below w.heap.size w w'
section
variable {P : Program}
theorem fr_evX {F : Trie EFunc} (hF : TabOk P F) {R : Nat → List Known} : ∀ d f l, Framed (evX F R d f l)
  | 0, _, _ => .fail
  | d + 1, f, l => by
    show Framed (knownR (R f) l (enterF F (evX F R d) f l))
    rcases knownR_cases (R f) l (enterF F (evX F R d) f l) with ⟨k, _, _, h⟩ | h
    · rw [h]; exact fr_readAll (.ret k.v) k.rows
    · rw [h]; exact fr_enterF (frC_tab hF) (fr_evX hF d) f l
theorem evX_ok {F : Trie EFunc} (hF : TabOk P F) (hm : P.follows .mixedOrders = true) {R : Nat → List Known} (hK : ∀ f k, k ∈ R f → KnR P f k) : ∀ d, CallsOk P (evX F R d)
  | 0 => fail_ok
  | d + 1 => by
    intro f args g c H l v c' H' l' base w0 w ρ U hargs hR hU h
    replace h : knownR (R f) args (enterF F (evX F R d) f args) g c H l = .ok v c' H' l' := h
    rcases knownR_cases (R f) args (enterF F (evX F R d) f args) with ⟨k, hk, he, e⟩ | e
    · rw [e] at h
      obtain ⟨rfl, rfl, rfl, hrows⟩ := readAll_ok h
      obtain ⟨⟨E, hE⟩, hv, hcall⟩ := hK f k hk
      subst he
      refine ⟨enter_run hE, (hcall base w0 w ρ U _ hR hrows).mono ?_⟩
      rintro e w' ⟨rfl, hb⟩
      obtain ⟨h1, h2⟩ := flatA_ren (ρ := ρ) (U := U) hv
      exact ⟨ρ, U, .refl, fun j hj => .inl hj, hR.kept hb, h2, by rw [h1]⟩
    · rw [e] at h
      exact enter_sound hF hm (evX_ok hF hm hK d) (fr_evX hF d) f args g c H l v c' H' l' base w0 w ρ U hargs hR hU h
end
namespace C
noncomputable def readAll (rows : List (Nat × Blk)) (m : M Value) : M Value := List.rec m (fun r _ ih => M.read r.1 fun k => M.iff (sameBlk k r.2) ih) rows
noncomputable def knownR (ks : List Known) (args : List Value) (m : M Value) : M Value :=
  List.rec m (fun k _ ih => Bool.rec ih (readAll k.rows (.ret k.v)) (eqL k.args args)) ks
noncomputable def evX (F : Trie DFunc) (R : Nat → List Known) (d : Nat) : CL :=
  Nat.rec (fun _ _ => .fail) (fun _ ih f args => knownR (R f) args (enterF F ih f args)) d
theorem readAll_up (m : Ev.M Value) : ∀ rows, up (Ev.readAll rows m) = readAll rows (up m)
  | [] => rfl
  | r :: rs => by
    show up (.read r.1 fun k => .iff (sameBlk k r.2) (Ev.readAll rs m)) = .read r.1 fun k => .iff (sameBlk k r.2) (readAll rs (up m))
    rw [up_read]
    congr 1; funext k
    rw [up_iff, readAll_up m rs]
theorem knownR_up (ks : List Known) (args : List Value) (m : Ev.M Value) : up (Ev.knownR ks args m) = knownR ks args (up m) := by
  induction ks with
  | nil => rfl
  | cons k r ih =>
    show up (Bool.rec (Ev.knownR r args m) (Ev.readAll k.rows (.ret k.v)) (eqL k.args args) : Ev.M Value) = (Bool.rec (knownR r args (up m)) (readAll k.rows (.ret k.v)) (eqL k.args args) : M Value)
    cases eqL k.args args
    · exact ih
    · exact readAll_up _ _
end C
theorem evX_up (R : Nat → List Known) : ∀ d f l, C.evX tabD R d f l = C.up (evX tabF R d f l)
  | 0, _, _ => rfl
  | d + 1, f, l => by
    show C.knownR (R f) l (C.enterF tabD (C.evX tabD R d) f l) = C.up (knownR (R f) l (enterF tabF (evX tabF R d) f l))
    rw [C.knownR_up, C.enter_up tab_deep _ _ (evX_up R d)]
theorem saysY_of {R : Nat → List Known} (hK : ∀ f k, k ∈ R f → KnR Tryz.prog f k) {f d : Nat} (h : saysT (C.evX tabD R d f []) = true) (w : World) : Calls Tryz.prog f #[] w fun e w' => e = .returned (.bool true) ∧ Below w.heap.size w w' := by
  unfold saysT at h
  rw [evX_up] at h
  obtain ⟨c, H, l, h⟩ := says_ok (show saysK (evX tabF R d f [] false 16 .leaf []) = true from h)
  exact ev_calls (evX_ok tab_ok mixed hK d) h w
end Go.Proofs.YtedipingocmmdaaGreat.Ev

