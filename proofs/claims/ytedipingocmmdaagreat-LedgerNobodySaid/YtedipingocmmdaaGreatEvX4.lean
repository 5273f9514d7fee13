/- An evaluator of calls: regions. -/
import Derived.Test.YtedipingocmmdaaGreatEvX3
namespace Go.Proofs.YtedipingocmmdaaGreat.Ev
open Go Go.RowKit

theorem to_true {α : Type} {m : M α} (hf : Framed m) {g : Bool} {c : Nat} {H : Mem} {l : Log} {x : α} {c' : Nat} {H' : Mem} {l' : Log} (h : m g c H l = .ok x c' H' l') : ∃ d H2, m true c H [] = .ok x c' H2 d ∧ (∀ n, H2.get n = H'.get n) ∧ c ≤ c' ∧ (g = true → l' = d ++ l) := by
  cases g with
  | false =>
    obtain ⟨-, t⟩ := hf.off h
    obtain ⟨d, hd⟩ := t []
    obtain ⟨_, _, hc, _⟩ := hf.run hd
    exact ⟨d, _, hd, fun _ => rfl, hc, fun h => by cases h⟩
  | true =>
    obtain ⟨d, hd, hc, hn, hu, hk, ha⟩ := hf.run h
    obtain ⟨H2, h2, h3⟩ := ha H [] (fun _ _ _ => rfl) hn
    rw [List.append_nil] at h2
    refine ⟨d, H2, h2, fun n => ?_, hc, fun _ => hd⟩
    obtain ⟨e, he, -, -, hu2, -, -⟩ := hf.run h2
    rw [List.append_nil] at he
    rw [← he] at hu2
    by_cases hw : (n, true) ∈ d ∨ (c ≤ n ∧ n < c')
    · exact h3 n hw
    · rw [not_or] at hw
      rw [hu2 n hw.1 (by omega), hu n hw.1 (by omega)]
theorem mono_of {α : Type} {m : M α} (hf : Framed m) {g : Bool} {c : Nat} {H : Mem} {l : Log} {x : α} {c' : Nat} {H' : Mem} {l' : Log} (h : m g c H l = .ok x c' H' l') : c ≤ c' := by
  cases g with
  | false =>
    obtain ⟨-, t⟩ := hf.off h
    obtain ⟨d, hd⟩ := t []
    obtain ⟨_, _, hc, _⟩ := hf.run hd
    exact hc
  | true => obtain ⟨_, _, hc, _⟩ := hf.run h; exact hc
theorem forced_eq {R : Type} (v : Value) (k : Value → R) : forced v k = k v := by
  cases v with
  | int kd n => cases n with
    | ofNat m => cases m <;> rfl
    | negSucc m => cases m <;> rfl
  | bool b => cases b <;> rfl
  | _ => rfl
theorem putT_ok {T : Trie Value} {d : Option Nat} {v : Value} {g : Bool} {c : Nat} {H : Mem} {l : Log} {T' : Trie Value} {c' : Nat} {H' : Mem} {l' : Log} (h : putT T d v g c H l = .ok T' c' H' l') :
    c' = c ∧ H' = H ∧ l' = l ∧ (∀ j, T'.get j = if d = some j then some v else T.get j) ∧ ∀ k, d = some k → insOk 20 k = true := by
  cases d with
  | none =>
    obtain ⟨rfl, rfl, rfl, rfl⟩ := ret_ok (show M.ret T g c H l = .ok T' c' H' l' from h)
    exact ⟨rfl, rfl, rfl, fun j => by rw [if_neg (by simp)], fun k hk => by cases hk⟩
  | some d =>
    replace h : forced v (fun v => T.ins M.fail (some v) 20 d M.ret) g c H l = .ok T' c' H' l' := h
    rw [forced_eq] at h
    obtain ⟨o, ho, hs, hg⟩ := Trie.ins_spec (some v) 20 T d
    rw [ho] at h
    cases o with
    | none => cases h
    | some t =>
      obtain ⟨rfl, rfl, rfl, rfl⟩ := ret_ok (show M.ret t g c H l = .ok T' c' H' l' from h)
      refine ⟨rfl, rfl, rfl, fun j => ?_, fun k hk => by injection hk with hk; rw [← hk, ← hs]; rfl⟩
      rw [hg _ rfl]
      by_cases e : j = d
      · rw [if_pos e, if_pos (by rw [e])]
      · rw [if_neg e, if_neg (by intro h; injection h with h; exact e h.symm)]

section
variable {P : Program} {cl : CL} {n : Nat} {ops : Array Oper}
/-- What is made of an operation of a region. -/
theorem oper_ok (hcl : CallsOk P cl) {o : Oper} {s : SOper} (h : compileOper P n ops o = some s) : SOk P cl n ops o s ∧ OpOk P o s.op := by
  unfold compileOper at h
  cases hg : guardOf ops o with
  | none => rw [hg] at h; cases h
  | some g =>
    rw [hg] at h
    simp only at h
    split at h
    · rename_i hp
      rw [Bool.and_eq_true] at hp
      have hpl : ∀ x ∈ o.op.operands.toList, plainO x = true := List.all_eq_true.mp hp.1
      cases hc : compileOp P o with
      | none =>
        rw [hc] at h; injection h with h; subst h
        exact ⟨⟨rfl, hp.2, hg, hpl, s_bad⟩, bad_ok⟩
      | some op =>
        rw [hc] at h; injection h with h; subst h
        have hok := compileOp_ok hc
        exact ⟨⟨rfl, hp.2, hg, hpl, hok.so cl hcl⟩, hok⟩
    · cases h
theorem looks_of {o : Oper} {s : SOper} (hs : SOk P cl n ops o s) (ho : OpOk P o s.op) : SLooks s (o.looksAt ops) where
  op := ⟨o.op.operands.toList, ho.lk, fun t ht => by
    unfold Oper.looksAt
    refine List.mem_append_left _ (List.mem_filterMap.mpr ⟨.tmp t, ht, rfl⟩)⟩
  guard := fun t b hg => by
    unfold Oper.looksAt
    refine List.mem_append_right _ ?_
    have h := hs.guard
    unfold guardOf at h
    cases hgo : o.guard with
    | none => rw [hgo] at h; injection h with h; rw [← h] at hg; cases hg
    | some p =>
      obtain ⟨j, c⟩ := p
      rw [hgo] at h
      simp only at h ⊢
      cases hd : (ops[j]?).bind (·.dst) with
      | none => rw [hd] at h; cases h
      | some d =>
        rw [hd] at h
        injection h with h
        rw [← h] at hg
        injection hg with hg
        injection hg with h1 h2
        rw [h1]; simp
/-- An operation's step. -/
theorem item_of (hcl : CallsOk P cl) (hfr : ∀ f l, Framed (cl f l)) {o : Oper} {s : SOper} (hs : compileOper P n ops o = some s) {T T1 : Trie Value} {g : Bool} {c c1 : Nat} {H H1 : Mem} {l l1 : Log} (h : evOper cl T s g c H l = .ok T1 c1 H1 l1) :
    ∃ (x : Item) (H2 : Mem), x.s = s ∧ x.c = c ∧ x.d = c1 ∧ IOk P cl n ops o x ∧ StepR cl x T.get H T1.get H2 ∧ (∀ n, H2.get n = H1.get n) ∧ (g = true → l1 = x.l ++ l) ∧ c ≤ c1 := by
  obtain ⟨hsok, hok⟩ := oper_ok hcl hs
  obtain ⟨v, c2, H2, l2, h1, h2⟩ := bind_ok h
  obtain ⟨rfl, rfl, rfl, hT, hd⟩ := putT_ok h2
  obtain ⟨d, K, hK, hKH, hc, hl⟩ := to_true (fr_evVal hfr hok.fr) h1
  refine ⟨⟨s, o.looksAt ops, c, c1, d⟩, K, rfl, rfl, rfl, ⟨hsok, ⟨fun T => fr_evVal hfr hok.fr, looks_of hsok hok, hd⟩, rfl, fun hq => ?_, fun hq => ?_⟩, ⟨T, v, fun _ => rfl, hK, hT⟩, hKH, hl, hc⟩
  · unfold evVal at hK
    cases hw : wantedT T s.guard with
    | false =>
      rw [hw] at hK
      obtain ⟨-, h3, -, h4⟩ := ret_ok (show M.ret undef true c H [] = .ok v c1 K d from hK)
      exact ⟨h3.symm, h4⟩
    | true =>
      rw [hw] at hK
      obtain ⟨h3, h4⟩ := hok.q0 hq _ _ _ _ _ _ _ _ _ _ hK
      exact ⟨h3.symm, h4⟩
  · unfold evVal at hK
    cases hw : wantedT T s.guard with
    | false =>
      rw [hw] at hK
      exact (ret_ok (show M.ret undef true c H [] = .ok v c1 K d from hK)).2.2.2
    | true =>
      rw [hw] at hK
      exact hok.q1 hq _ _ _ _ _ _ _ _ _ _ hK
/-- The items of a run. -/
structure Items (P : Program) (cl : CL) (n : Nat) (ops : Array Oper) (k : Nat) (os : List Oper) (c c' : Nat) (its : List (Nat × Item)) : Prop where
  len : its.length = os.length
  at_ : ∀ t o, os[t]? = some o → ∃ x, its[t]? = some (k + t, x) ∧ IOk P cl n ops o x
  pw : its.Pairwise fun p q => p.1 < q.1 ∧ p.2.d ≤ q.2.c
  rng : ∀ p ∈ its, k ≤ p.1 ∧ c ≤ p.2.c ∧ p.2.c ≤ p.2.d ∧ p.2.d ≤ c'
theorem items_nil {k c : Nat} : Items P cl n ops k [] c c [] := ⟨rfl, fun t o h => (by cases h), .nil, fun p hp => (by cases hp)⟩
theorem items_cons {k c c1 c' : Nat} {o : Oper} {os : List Oper} {x : Item} {its : List (Nat × Item)} (hx : IOk P cl n ops o x) (h1 : x.c = c) (h2 : x.d = c1) (h3 : c ≤ c1) (h4 : c1 ≤ c') (h : Items P cl n ops (k + 1) os c1 c' its) : Items P cl n ops k (o :: os) c c' ((k, x) :: its) where
  len := by rw [List.length_cons, List.length_cons, h.len]
  at_ := fun t o' ht => by
    cases t with
    | zero => have e : o = o' := Option.some.inj ht; subst e; exact ⟨x, rfl, hx⟩
    | succ t =>
      obtain ⟨y, hy, hyo⟩ := h.at_ t o' ht
      exact ⟨y, by show its[t]? = _; rw [hy, show k + 1 + t = k + (t + 1) by omega], hyo⟩
  pw := List.pairwise_cons.mpr ⟨fun p hp => by
    have := h.rng p hp
    simp only
    omega, h.pw⟩
  rng := fun p hp => by
    rcases List.mem_cons.mp hp with rfl | hp
    · simp only; omega
    · have := h.rng p hp; omega
theorem mapO_cons {α β : Type} {f : α → Option β} {x : α} {l : List α} {r : List β} (h : mapO f (x :: l) = some r) : ∃ y ys, f x = some y ∧ mapO f l = some ys ∧ r = y :: ys := by
  simp only [mapO] at h
  cases hx : f x with
  | none => rw [hx] at h; cases h
  | some y =>
    cases hl : mapO f l with
    | none => rw [hx, hl] at h; cases h
    | some ys => rw [hx, hl] at h; injection h with h; exact ⟨y, ys, rfl, rfl, h.symm⟩
theorem seq_items (hcl : CallsOk P cl) (hfr : ∀ f l, Framed (cl f l)) : ∀ (os : List Oper) (ss : List SOper) (k : Nat), mapO (compileOper P n ops) os = some ss → ∀ {T T' : Trie Value} {g : Bool} {c c' : Nat} {H H' : Mem} {l l' : Log}, evSeq cl ss T g c H l = .ok T' c' H' l' →
    ∃ its, Items P cl n ops k os c c' its ∧ Chain cl (its.map (·.2)) T.get H T'.get H' ∧ c ≤ c'
  | [], ss, k, hm, T, T', g, c, c', H, H', l, l', h => by
    injection hm with hm; subst hm
    obtain ⟨rfl, rfl, rfl, rfl⟩ := ret_ok (show M.ret T g c H l = .ok T' c' H' l' from h)
    exact ⟨[], items_nil, ⟨rfl, fun _ => rfl⟩, Nat.le_refl _⟩
  | o :: os, ss, k, hm, T, T', g, c, c', H, H', l, l', h => by
    obtain ⟨s, ss2, hs, hss, rfl⟩ := mapO_cons hm
    obtain ⟨T1, c1, H1, l1, h1, h2⟩ := bind_ok (show M.bind (evOper cl T s) (evSeq cl ss2) g c H l = .ok T' c' H' l' from h)
    obtain ⟨x, H2, e1, e2, e3, hx, hst, hH, -, hc⟩ := item_of hcl hfr hs h1
    obtain ⟨its, hi, hch, hc2⟩ := seq_items hcl hfr os ss2 (k + 1) hss h2
    refine ⟨(k, x) :: its, items_cons hx e2 e3 hc hc2 hi, ⟨T1.get, H2, hst, chain_congr (fun y hy => ?_) hch fun n => (hH n).symm⟩, Nat.le_trans hc hc2⟩
    obtain ⟨p, hp, rfl⟩ := List.mem_map.mp hy
    obtain ⟨t, ht⟩ := List.getElem?_of_mem hp
    have hlt : t < os.length := by rw [← hi.len]; exact (List.getElem?_eq_some_iff.mp ht).1
    obtain ⟨y, hy, hyo⟩ := hi.at_ t _ (List.getElem?_eq_getElem hlt)
    rw [ht] at hy
    injection hy with hy
    rw [hy]; exact hyo.iok
def didOf (p : Nat × Item) : Did := ⟨p.2.c, p.2.d, p.2.l⟩
theorem log_items (hcl : CallsOk P cl) (hfr : ∀ f l, Framed (cl f l)) : ∀ (os : List Oper) (ss : List SOper) (k : Nat), mapO (compileOper P n ops) os = some ss → ∀ {T : Trie Value} {ds : List Did} {r : Trie Value × List Did} {g : Bool} {c c' : Nat} {H H' : Mem} {l l' : Log}, evLogs cl ss T ds g c H l = .ok r c' H' l' →
    ∃ its, Items P cl n ops k os c c' its ∧ Chain cl (its.map (·.2)) T.get H r.1.get H' ∧ c ≤ c' ∧ r.2 = (its.map didOf).reverse ++ ds
  | [], ss, k, hm, T, ds, r, g, c, c', H, H', l, l', h => by
    injection hm with hm; subst hm
    obtain ⟨rfl, rfl, rfl, rfl⟩ := ret_ok (show M.ret (T, ds) g c H l = .ok r c' H' l' from h)
    exact ⟨[], items_nil, ⟨rfl, fun _ => rfl⟩, Nat.le_refl _, rfl⟩
  | o :: os, ss, k, hm, T, ds, r, g, c, c', H, H', l, l', h => by
    obtain ⟨s, ss2, hs, hss, rfl⟩ := mapO_cons hm
    obtain ⟨y, c1, H1, l1, h1, h2⟩ := bind_ok (show M.bind (logged (evOper cl T s)) (fun p => Prod.rec (fun T d => evLogs cl ss2 T (d :: ds)) p) g c H l = .ok r c' H' l' from h)
    obtain ⟨T1, d, h3, rfl, -⟩ := logged_ok h1
    obtain ⟨x, H2, e1, e2, e3, hx, hst, hH, hl, hc⟩ := item_of hcl hfr hs h3
    have hxl : x.l = d := by rw [hl rfl, List.append_nil]
    obtain ⟨its, hi, hch, hc2, hr⟩ := log_items hcl hfr os ss2 (k + 1) hss (show evLogs cl ss2 T1 (⟨c, c1, d⟩ :: ds) g c1 H1 l1 = .ok r c' H' l' from h2)
    refine ⟨(k, x) :: its, items_cons hx e2 e3 hc hc2 hi, ⟨T1.get, H2, hst, chain_congr (fun y hy => ?_) hch fun n => (hH n).symm⟩, Nat.le_trans hc hc2, ?_⟩
    · obtain ⟨p, hp, rfl⟩ := List.mem_map.mp hy
      obtain ⟨t, ht⟩ := List.getElem?_of_mem hp
      have hlt : t < os.length := by rw [← hi.len]; exact (List.getElem?_eq_some_iff.mp ht).1
      obtain ⟨y, hy, hyo⟩ := hi.at_ t _ (List.getElem?_eq_getElem hlt)
      rw [ht] at hy
      injection hy with hy
      rw [hy]; exact hyo.iok
    · rw [hr, List.map_cons, List.reverse_cons, List.append_assoc]
      have : didOf (k, x) = ⟨c, c1, d⟩ := by unfold didOf; simp only [e2, e3, hxl]
      rw [this]
      rfl
end
end Go.Proofs.YtedipingocmmdaaGreat.Ev

