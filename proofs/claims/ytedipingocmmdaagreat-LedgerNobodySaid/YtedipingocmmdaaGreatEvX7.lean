/- An evaluator of calls: functions; what the evaluator tells holds of the program's calls. -/
import Derived.Test.YtedipingocmmdaaGreatEvX6
namespace Go.Proofs.YtedipingocmmdaaGreat.Ev
open Go Go.RowKit

section
variable {P : Program}
theorem argsT_ok {k : Trie Value → M Value} {g : Bool} {c : Nat} {H : Mem} {l : Log} {v : Value} {c' : Nat} {H' : Mem} {l' : Log} : ∀ (vs : List Value) (n : Nat) (T : Trie Value), argsT vs n T k g c H l = .ok v c' H' l' →
    ∃ T', (∀ j, T'.get j = match (if n ≤ j then vs[j - n]? else none) with | some u => some u | none => T.get j) ∧ k T' g c H l = .ok v c' H' l'
  | [], n, T, h => ⟨T, fun j => by split <;> simp_all, h⟩
  | u :: r, n, T, h => by
    replace h : T.ins M.fail (some u) 20 n (fun T => argsT r (Nat.succ n) T k) g c H l = .ok v c' H' l' := h
    obtain ⟨o, ho, -, hg⟩ := Trie.ins_spec (some u) 20 T n
    rw [ho] at h
    cases o with
    | none => cases h
    | some t =>
      obtain ⟨T', hT, hk⟩ := argsT_ok r (n + 1) t h
      refine ⟨T', fun j => ?_, hk⟩
      rw [hT j, hg t rfl j]
      by_cases h1 : n + 1 ≤ j
      · rw [if_pos h1, if_pos (show n ≤ j by omega), if_neg (show ¬ j = n by omega), show j - n = (j - (n + 1)) + 1 by omega]
        rfl
      · rw [if_neg h1]
        by_cases h2 : j = n
        · subst h2
          rw [if_pos (Nat.le_refl _), if_pos rfl, Nat.sub_self]
          rfl
        · rw [if_neg (show ¬ n ≤ j by omega), if_neg h2]
/-- One result. -/
def resF (tmps : Array Value) : ResultVar → Sem Value
  | .tmp t => pure (tmps.getD t undef)
  | .cell q t => do loadVar t (← asAddr (tmps.getD q undef))
theorem results_eq (fn : Func) (tmps : Array Value) : results fn tmps = ((fn.results.toList.mapM (resF tmps)) >>= fun l => pure (if h : l.toArray.size = 1 then l.toArray[0] else .tuple l.toArray)) := by
  show (fn.results.mapM (resF tmps) >>= fun vs => pure (if h : vs.size = 1 then vs[0] else .tuple vs)) = _
  rw [Array.mapM_eq_mapM_toList, ← bind_pure_comp, bind_assoc]
  refine bind_congr fun l => ?_
  rw [pure_bind]
/-- Results. -/
theorem res_ok {base : Nat} {w0 w : World} {ρ : Nat → Loc} {U : Nat → Prop} {n : Nat} {T : Trie Value} {a : Act} {H : Mem} (hF : Frm ρ U n T.get a) (hR : Rel P base w0 ρ U H w) {g : Bool} {c : Nat} {v : Value} {c' : Nat} {H' : Mem} {l' : Log} : ∀ (rvs : List ResultVar) (rs : List RVar), mapO (compileR P) rvs = some rs → ∀ {k : List Value → M Value} {l : Log}, evRes T rs k g c H l = .ok v c' H' l' →
    ∃ vs l2, k vs g c H l2 = .ok v c' H' l' ∧ (∀ u ∈ vs, Ok ρ U u) ∧ (rvs.mapM (resF a.tmps)).run P w = .ok (vs.map (ren ρ)) w
  | [], rs, h, k, l, hr => by
    injection h with h; subst h
    exact ⟨[], l, hr, fun u hu => (by cases hu), rfl⟩
  | rv :: rvs, rs, h, k, l, hr => by
    obtain ⟨r, rs2, h1, h2, rfl⟩ := mapO_cons h
    cases rv with
    | tmp t =>
      injection h1 with h1; subst h1
      obtain ⟨vs, l2, k1, k2, k3⟩ := res_ok hF hR rvs rs2 h2 (show evRes T rs2 (fun vs => k (evalO T (.tmp t) :: vs)) g c H l = .ok v c' H' l' from hr)
      obtain ⟨e1, e2⟩ := hF.eval (x := .tmp t) rfl
      refine ⟨_, l2, k1, fun u hu => ?_, ?_⟩
      · rcases List.mem_cons.mp hu with rfl | hu
        · exact e2
        · exact k2 u hu
      · rw [List.mapM_cons, run_bind (show (resF a.tmps (.tmp t)).run P w = .ok (a.tmps.getD t undef) w from rfl), run_bind k3]
        rw [List.map_cons, ← e1]
        rfl
    | cell q t =>
      unfold compileR at h1
      simp only at h1
      cases hs : sizeT P t with
      | none => rw [hs] at h1; cases h1
      | some m =>
        cases hg : aggT P t with
        | none => rw [hs, hg] at h1; cases h1
        | some gg =>
          rw [hs, hg] at h1
          simp only at h1
          split at h1
          · rename_i hn
            injection h1 with h1; subst h1
            obtain ⟨b, p, hb, hr⟩ := ptr_ok (show (onPtr (evalO T (.tmp q)) (M.fail (α := Value)) (fun b o => M.bind (loadM b o m gg) fun v => evRes T rs2 fun vs => k (v :: vs)) : M Value) g c H l = .ok v c' H' l' from hr)
            obtain ⟨u, c2, H2, l2, k0, hr2⟩ := bind_ok hr
            obtain ⟨rfl, rfl, hOk, hrun⟩ := run_load hR hs hg hn k0
            obtain ⟨vs, l3, k1, k2, k3⟩ := res_ok hF hR rvs rs2 h2 hr2
            obtain ⟨e1, -⟩ := hF.eval (x := .tmp q) rfl
            rw [hb] at e1
            refine ⟨_, l3, k1, fun x hx => ?_, ?_⟩
            · rcases List.mem_cons.mp hx with rfl | hx
              · exact hOk
              · exact k2 x hx
            · rw [List.mapM_cons]
              have hload : (resF a.tmps (.cell q t)).run P w = .ok (ren ρ u) w := by
                unfold resF
                simp only
                rw [show a.tmps.getD q undef = ren ρ (.pointer (some ⟨b, p, none⟩)) from e1]
                show ((pure (Addr.mk (ρ b).blk p none) : Sem Addr) >>= fun y => loadVar t y).run P w = _
                rw [run_bind (run_pure _)]
                exact hrun
              rw [run_bind hload, run_bind k3]
              rfl
          · cases h1
theorem pack_ok {ρ : Nat → Loc} {U : Nat → Prop} {vs : List Value} (h : ∀ u ∈ vs, Ok ρ U u) : Ok ρ U (packV vs) ∧ ren ρ (packV vs) = if h : (vs.map (ren ρ)).toArray.size = 1 then (vs.map (ren ρ)).toArray[0] else .tuple (vs.map (ren ρ)).toArray := by
  cases vs with
  | nil => exact ⟨trivial, rfl⟩
  | cons v r =>
    cases r with
    | nil => exact ⟨h v (List.mem_singleton.mpr rfl), by simp; rfl⟩
    | cons u r =>
      refine ⟨(okL_eq _ _ _).mpr h, ?_⟩
      rw [dif_neg (by simp)]
      show Value.tuple ⟨renL ρ (v :: u :: r)⟩ = _
      rw [renL_eq]
/-- An entry of the table is that of the program. -/
def TabAt (P : Program) (f : Nat) (E : EFunc) : Prop := ∃ fn, P.funcs[f]? = some fn ∧ compileF P fn = some E ∧ (fn.name == "runtime.NumGoroutine") = false
/-- The table is that of the program. -/
def TabOk (P : Program) (F : Trie EFunc) : Prop := ∀ f E, F.get f = some E → TabAt P f E
/-- What holds of each entry, at its number. -/
def AllT (Q : Nat → EFunc → Prop) : Trie EFunc → Nat → Nat → Prop
  | .leaf, _, _ => True
  | .node l v r, a, b => AllT Q l (2 * a) (a + b) ∧ (∀ e, v = some e → Q b e) ∧ AllT Q r (2 * a) (2 * a + b)
theorem AllT.node {Q : Nat → EFunc → Prop} {l r : Trie EFunc} {v : Option EFunc} {a b : Nat} (a2 bl br : Nat) (e1 : 2 * a = a2) (e2 : a + b = bl) (e3 : 2 * a + b = br) (h : ∀ e, v = some e → Q b e) (hl : AllT Q l a2 bl) (hr : AllT Q r a2 br) : AllT Q (.node l v r) a b := by
  subst e1 e2 e3
  exact ⟨hl, h, hr⟩
theorem AllT.some {Q : Nat → EFunc → Prop} {b : Nat} {E : EFunc} (h : Q b E) : ∀ e, Option.some E = Option.some e → Q b e := fun e he => by injection he with he; rw [← he]; exact h
theorem AllT.none {Q : Nat → EFunc → Prop} {b : Nat} : ∀ e, (Option.none : Option EFunc) = Option.some e → Q b e := fun e he => by cases he
theorem AllT.get {Q : Nat → EFunc → Prop} : ∀ (t : Trie EFunc) (a b : Nat), AllT Q t a b → ∀ n E, t.get n = .some E → Q (a * n + b) E
  | .leaf, _, _, _, n, E, h => by cases h
  | .node l v r, a, b, h, n, E, hg => by
    obtain ⟨hl, hv, hr⟩ := h
    replace hg : (Bool.rec (Bool.rec (r.get (n / 2 - 1)) (l.get (n / 2)) (Nat.beq (n % 2) 1)) v (Nat.beq n 0) : Option EFunc) = .some E := hg
    rcases beq_cases n 0 with ⟨e, h0⟩ | ⟨e, h0⟩
    · rw [e] at hg
      rw [h0, Nat.mul_zero, Nat.zero_add]
      exact hv E hg
    · rw [e] at hg
      replace hg : (Bool.rec (r.get (n / 2 - 1)) (l.get (n / 2)) (Nat.beq (n % 2) 1) : Option EFunc) = .some E := hg
      rcases beq_cases (n % 2) 1 with ⟨e2, h2⟩ | ⟨e2, h2⟩
      · rw [e2] at hg
        have := AllT.get l _ _ hl (n / 2) E hg
        have e3 : a * n + b = 2 * a * (n / 2) + (a + b) := by
          have : n = 2 * (n / 2) + 1 := by omega
          generalize n / 2 = m at *
          subst this
          rw [Nat.mul_add, Nat.mul_one, ← Nat.mul_assoc, Nat.mul_comm a 2]
          omega
        rw [e3]; exact this
      · rw [e2] at hg
        have := AllT.get r _ _ hr (n / 2 - 1) E hg
        have e3 : a * n + b = 2 * a * (n / 2 - 1) + (2 * a + b) := by
          have : n = 2 * (n / 2 - 1) + 2 := by omega
          generalize n / 2 - 1 = m at *
          subst this
          rw [Nat.mul_add, ← Nat.mul_assoc, Nat.mul_comm a 2]
          omega
        rw [e3]; exact this
theorem AllT.at_ {Q : Nat → EFunc → Prop} {t : Trie EFunc} (h : AllT Q t 1 0) (f : Nat) (E : EFunc) (hg : t.get f = .some E) : Q f E := by
  have := AllT.get t 1 0 h f E hg
  rw [Nat.one_mul, Nat.add_zero] at this
  exact this
theorem enter_sound {F : Trie EFunc} (hF : TabOk P F) (hm : P.follows .mixedOrders = true) {cl : CL} (hcl : CallsOk P cl) (hfr : ∀ f l, Framed (cl f l)) : CallsOk P (enterF F cl) := by
  intro f args g c H l v c' H' l' base w0 w ρ U hargs hR hU h
  unfold enterF at h
  cases hf : F.get f with
  | none => rw [hf] at h; cases h
  | some E =>
    rw [hf] at h
    obtain ⟨fn, hfn, hE, hname⟩ := hF f E hf
    unfold compileF at hE
    cases hb : fn.body with
    | none => rw [hb] at hE; cases hE
    | some code =>
      rw [hb] at hE
      simp only at hE
      split at hE
      · rename_i ec rs hec hrs
        injection hE with hE
        subst hE
        obtain ⟨T, hT, h⟩ := argsT_ok args 0 .leaf (show argsT args 0 .leaf (fun T => .bind (ec cl T) fun r => onExit r.1 (evRes r.2 rs fun vs => .ret (packV vs)) (fun _ => .fail) (evRes r.2 rs fun vs => .ret (packV vs))) g c H l = .ok v c' H' l' from h)
        obtain ⟨r, c1, H1, l1, h1, h2⟩ := bind_ok h
        obtain ⟨x, T1⟩ := r
        obtain ⟨fc, sc⟩ := code_ok code ec hec
        have hc1 := mono_of (fc cl hfr T) h1
        have hres : evRes T1 rs (fun vs => .ret (packV vs)) g c1 H1 l1 = .ok v c' H' l' ∧ (exitOf x = .normal ∨ exitOf x = .ret) := by
          rcases exit_ok h2 with ⟨rfl, h3⟩ | ⟨i, rfl, h3⟩ | ⟨rfl, h3⟩
          · exact ⟨h3, .inl rfl⟩
          · cases h3
          · exact ⟨h3, .inr rfl⟩
        have hc2 : c1 ≤ c' := mono_of (fr_evRes (T := T1) (rs := rs) fun _ => .ret _) hres.1
        refine ⟨fun w' as => ?_, ?_⟩
        · unfold callFunc
          show (program >>= _).run P w' = _
          rw [run_bind (show (program).run P w' = .ok P w' from rfl)]
          simp only [hfn, hname, hb]
          rfl
        · refine calls_of_wp hfn hb ?_
          have hFrm : Frm ρ U fn.ntmps T.get { tmps := (args.map (ren ρ)).toArray ++ Array.replicate (fn.ntmps - (args.map (ren ρ)).toArray.size) undef, defers := [] } := by
            refine ⟨fun t => ?_, fun t u hu => ?_, by simp; omega, rfl⟩
            · rw [hT t]
              simp only [Nat.zero_le, if_true, Nat.sub_zero, Trie.get_leaf]
              rw [Array.getD_eq_getD_getElem?, Array.getElem?_append]
              by_cases hlt : t < args.length
              · rw [if_pos (by simpa using hlt)]
                simp [hlt]
              · rw [if_neg (by simpa using hlt), List.getElem?_eq_none (by omega), Array.getElem?_replicate]
                split <;> rfl
            · rw [hT t] at hu
              simp only [Nat.zero_le, if_true, Nat.sub_zero, Trie.get_leaf] at hu
              cases hq : args[t]? with
              | none => rw [hq] at hu; cases hu
              | some y =>
                rw [hq] at hu
                injection hu with hu
                subst hu
                exact hargs y (List.mem_of_getElem? hq)
          refine sc cl hcl hfr hm T g c H l x T1 c1 H1 l1 base w0 ρ U _ w h1 hFrm hR (fun j a b => hU j a (by omega)) _ fun ρ' U' a' w' m1 m2 m3 m4 => ?_
          obtain ⟨vs, l2, k1, k2, k3⟩ := res_ok m3 m4 fn.results.toList rs hrs hres.1
          obtain ⟨rfl, rfl, rfl, rfl⟩ := ret_ok k1
          obtain ⟨p1, p2⟩ := pack_ok k2
          have hrun : (results fn a'.tmps).run P w' = .ok (ren ρ' (packV vs)) w' := by
            rw [results_eq, run_bind k3, p2]
            rfl
          have hpost : a'.defers = [] ∧ ∃ v, (results fn a'.tmps).run P w' = .ok v w' ∧ (fun e w' => ∃ ρ' U', More ρ U ρ' U' ∧ (∀ j, U' j → U j ∨ (c ≤ j ∧ j < c')) ∧ Rel P base w0 ρ' U' H' w' ∧ Ok ρ' U' (packV vs) ∧ e = Ending.returned (ren ρ' (packV vs))) (.returned v) w' :=
            ⟨m3.defers, _, hrun, ρ', U', m1, m2, m4, p1, rfl⟩
          rcases hres.2 with e | e
          · rw [e]; exact hpost
          · rw [e]; exact hpost
      · cases hE
theorem fail_ok : CallsOk P (fun _ _ => .fail) := by
  intro f args g c H l v c' H' l' base w0 w ρ U _ _ _ h
  cases h
theorem evF0_ok {F : Trie EFunc} (hF : TabOk P F) (hm : P.follows .mixedOrders = true) : ∀ d, CallsOk P (evF F nobody d)
  | 0 => fail_ok
  | d + 1 => enter_sound hF hm (evF0_ok hF hm d) (fr_evF0 (fun f E h => by
      obtain ⟨fn, _, hE, _⟩ := hF f E h
      unfold compileF at hE
      split at hE
      · split at hE
        · rename_i hc _
          injection hE with hE; subst hE
          exact (code_ok _ _ hc).1
        · cases hE
      · cases hE) d)
/-- Nothing is named at first. -/
theorem rel_start (w : World) : Rel P w.heap.size w (fun _ => ⟨0, 0, 0⟩) (fun _ => False) .leaf w where
  old := .refl _ _
  top := Nat.le_refl _
  at_ := fun _ h => h.elim
  inj := fun _ _ _ _ h => by cases h
  live := fun _ _ h => by cases h
  low := fun _ h => h.elim
  row := fun _ _ h => by cases h
/-- What the evaluator tells of a call without arguments. -/
theorem ev_calls {cl : CL} (hcl : CallsOk P cl) {f : Nat} {g : Bool} {b : Bool} {c : Nat} {H : Mem} {l : Log} (h : cl f [] g 16 .leaf [] = .ok (.bool b) c H l) (w : World) : Calls P f #[] w fun e w' => e = .returned (.bool b) ∧ Below w.heap.size w w' := by
  obtain ⟨-, h2⟩ := hcl f [] g 16 .leaf [] (.bool b) c H l w.heap.size w w _ _ (fun x hx => by cases hx) (rel_start w) (fun _ _ _ h => h) h
  refine h2.mono ?_
  rintro e w' ⟨ρ', U', -, -, h3, -, rfl⟩
  exact ⟨rfl, h3.old⟩
end
end Go.Proofs.YtedipingocmmdaaGreat.Ev

