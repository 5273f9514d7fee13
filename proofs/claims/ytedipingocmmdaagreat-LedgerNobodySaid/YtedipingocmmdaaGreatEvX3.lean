/- An evaluator of calls: a region that draws its order. -/
import Derived.Test.YtedipingocmmdaaGreatEvX2
namespace Go.Proofs.YtedipingocmmdaaGreat.Ev
open Go Go.RowKit

section
variable {P : Program} {cl : CL} {n : Nat} {ops : Array Oper}
/-- An item is what an operation came to. -/
structure IOk (P : Program) (cl : CL) (n : Nat) (ops : Array Oper) (o : Oper) (x : Item) : Prop where
  sok : SOk P cl n ops o x.s
  iok : ItemOk cl x
  ts : x.ts = o.looksAt ops
  q0 : loud o.op = none → x.c = x.d ∧ x.l = []
  q1 : loud o.op = some false → x.l = []
/-- The mask of an operation, over those ahead of it. -/
def maskOf (acc : Array Nat) (o : Oper) : Nat := o.after.foldl (fun s e => if Region.binds .any e then s ||| 2 ^ e.on ||| acc.getD e.on 0 else s) 0
theorem before_eq : Region.before ops = ops.toList.foldl (fun acc o => acc.push (maskOf acc o)) #[] := by
  unfold Region.before
  rw [← Array.foldl_toList]
  rfl
theorem mask_spec (acc : Array Nat) (k : Nat) : ∀ (l : List Edge) (s : Nat), (l.foldl (fun s e => if Region.binds .any e then s ||| 2 ^ e.on ||| acc.getD e.on 0 else s) s).testBit k = true → s.testBit k = true ∨ ∃ e ∈ l, Region.binds .any e = true ∧ (e.on = k ∨ (acc.getD e.on 0).testBit k = true)
  | [], s, h => .inl h
  | e :: l, s, h => by
    rw [List.foldl_cons] at h
    rcases mask_spec acc k l _ h with h1 | ⟨e', he', hb, ho⟩
    · by_cases hb : Region.binds .any e = true
      · rw [if_pos hb] at h1
        rw [Nat.testBit_or, Nat.testBit_or, Bool.or_eq_true, Bool.or_eq_true] at h1
        rcases h1 with (h1 | h1) | h1
        · exact .inl h1
        · rw [Nat.testBit_two_pow] at h1
          exact .inr ⟨e, List.mem_cons_self .., hb, .inl (by simpa using h1)⟩
        · exact .inr ⟨e, List.mem_cons_self .., hb, .inr h1⟩
      · rw [if_neg hb] at h1; exact .inl h1
    · exact .inr ⟨e', List.mem_cons_of_mem _ he', hb, ho⟩
theorem fold_spec : ∀ (l : List Oper) (acc : Array Nat), (∀ j, j < acc.size → (l.foldl (fun acc o => acc.push (maskOf acc o)) acc).getD j 0 = acc.getD j 0) ∧
    ∀ t o, l[t]? = some o → ∃ acc', (∀ j, acc'.getD j 0 = if j < acc.size + t then (l.foldl (fun acc o => acc.push (maskOf acc o)) acc).getD j 0 else 0) ∧ (l.foldl (fun acc o => acc.push (maskOf acc o)) acc).getD (acc.size + t) 0 = maskOf acc' o
  | [], acc => ⟨fun _ _ => rfl, fun t o h => by cases h⟩
  | o :: l, acc => by
    obtain ⟨h1, h2⟩ := fold_spec l (acc.push (maskOf acc o))
    have hsz : (acc.push (maskOf acc o)).size = acc.size + 1 := Array.size_push ..
    have hpush : ∀ j, j < acc.size → (acc.push (maskOf acc o)).getD j 0 = acc.getD j 0 := fun j hj => by
      simp only [Array.getD_eq_getD_getElem?, Array.getElem?_push]
      rw [if_neg (by omega)]
    have hold : ∀ j, j < acc.size → ((o :: l).foldl (fun acc o => acc.push (maskOf acc o)) acc).getD j 0 = acc.getD j 0 := fun j hj => by
      rw [List.foldl_cons, h1 j (by omega), hpush j hj]
    refine ⟨hold, fun t o' ht => ?_⟩
    cases t with
    | zero =>
      have e : o = o' := Option.some.inj ht
      subst e
      refine ⟨acc, fun j => ?_, ?_⟩
      · by_cases hj : j < acc.size + 0
        · rw [if_pos hj, hold j hj]
        · rw [if_neg hj]; simp only [Array.getD_eq_getD_getElem?]; rw [Array.getElem?_eq_none (by omega)]; rfl
      · rw [List.foldl_cons, h1 _ (by omega)]
        simp only [Array.getD_eq_getD_getElem?, Array.getElem?_push]
        rw [if_pos (by omega)]; rfl
    | succ t =>
      obtain ⟨acc', k1, k2⟩ := h2 t o' ht
      refine ⟨acc', fun j => ?_, ?_⟩
      · rw [k1 j, List.foldl_cons, hsz, show acc.size + 1 + t = acc.size + (t + 1) by omega]
      · rw [List.foldl_cons, show acc.size + (t + 1) = (acc.push (maskOf acc o)).size + t by omega]; exact k2
theorem before_spec (k i : Nat) (hi : i < ops.size) (h : ordB (Region.before ops) k i = true) : ∃ e ∈ (ops.getD i default).after, Region.binds .any e = true ∧ (e.on = k ∨ ordB (Region.before ops) k e.on = true) := by
  unfold ordB at h ⊢
  obtain ⟨-, h2⟩ := fold_spec ops.toList #[]
  have hio : ops.toList[i]? = some (ops.getD i default) := by simp [Array.getD, hi]
  obtain ⟨acc', k1, k2⟩ := h2 i _ hio
  rw [← before_eq] at k1 k2
  have e0 : (#[] : Array Nat).size + i = i := by simp
  rw [e0] at k1 k2
  rw [k2] at h
  unfold maskOf at h
  rw [← Array.foldl_toList] at h
  rcases mask_spec acc' k _ 0 h with h | ⟨e, he, hb, ho⟩
  · simp at h
  · refine ⟨e, Array.mem_toList_iff.mp he, hb, ?_⟩
    rcases ho with ho | ho
    · exact .inl ho
    · rw [k1] at ho
      split at ho
      · exact .inr ho
      · simp at ho
/-- What is left of a region, in order: where each operation stands, what it came to. -/
structure Left (P : Program) (cl : CL) (n : Nat) (ops : Array Oper) (L : List (Nat × Item)) (listed : Array Bool) : Prop where
  ok : ∀ p ∈ L, ∃ o, ops[p.1]? = some o ∧ IOk P cl n ops o p.2
  pw : L.Pairwise fun p q => p.1 < q.1 ∧ (ordB (Region.before ops) p.1 q.1 = true ∨ Ind p.2 q.2) ∧ ∀ n, p.2.c ≤ n → n < p.2.d → n < q.2.c ∨ q.2.d ≤ n
  size : listed.size = ops.size
  un : ∀ i, i < ops.size → (listed.getD i true = false ↔ ∃ x, (i, x) ∈ L)
  closed : ∀ j, j < ops.size → listed.getD j true = true → ∀ e ∈ (ops.getD j default).after, Region.binds .any e = true → listed.getD e.on false = true
  low : ∀ j, j < ops.size → ∀ e ∈ (ops.getD j default).after, Region.binds .any e = true → e.on < j
theorem getD_of {i : Nat} {o : Oper} (h : ops[i]? = some o) : i < ops.size ∧ ops.getD i default = o := by
  obtain ⟨h1, h2⟩ := Array.getElem?_eq_some_iff.mp h
  exact ⟨h1, by simp [Array.getD, h1, h2]⟩
theorem listed_of {listed : Array Bool} {i : Nat} (hi : i < listed.size) : (listed.getD i true = true ↔ listed.getD i false = true) := by
  simp [Array.getD, hi]
/-- Whoever may come up now has nothing to wait for among those that are left. -/
theorem not_before {L : List (Nat × Item)} {listed : Array Bool} (hL : Left P cl n ops L listed) {k : Nat} (hk : k < ops.size) (hku : listed.getD k true = false) : ∀ (i : Nat), i < ops.size → (∀ e ∈ (ops.getD i default).after, Region.binds .any e = true → listed.getD e.on false = true) → ordB (Region.before ops) k i ≠ true := by
  intro i
  induction i using Nat.strongRecOn with
  | _ i ih =>
    intro hi hall h
    obtain ⟨e, he, hb, hor⟩ := before_spec k i hi h
    have h1 := hall e he hb
    have hlt := hL.low i hi e he hb
    have hes : e.on < listed.size := by rw [hL.size]; omega
    have h2 : listed.getD e.on true = true := (listed_of hes).mpr h1
    rcases hor with rfl | hor
    · rw [hku] at h2; cases h2
    · exact ih e.on hlt (by omega) (hL.closed e.on (by omega) h2) hor
theorem region_sound {τF : Nat → Option Value} {HF : Mem} {base : Nat} {w0 : World} {Q : Exit → Act → World → Prop} :
    ∀ (m : Nat) (L : List (Nat × Item)) (listed : Array Bool), L.length = m → Left P cl n ops L listed → ∀ (ρ : Nat → Loc) (U : Nat → Prop) (τ : Nat → Option Value) (H : Mem) (a : Act) (w : World), Frm ρ U n τ a → Rel P base w0 ρ U H w →
      (∀ p ∈ L, ∀ j, p.2.c ≤ j → j < p.2.d → ¬ U j) → Chain cl (L.map (·.2)) τ H τF HF →
      (∀ ρ' U' a' w', More ρ U ρ' U' → (∀ j, U' j → U j ∨ ∃ p ∈ L, p.2.c ≤ j ∧ j < p.2.d) → Frm ρ' U' n τF a' → Rel P base w0 ρ' U' HF w' → Q .normal a' w') → wpAny P .any ops Q m listed a w
  | 0, L, listed, hm, hL, ρ, U, τ, H, a, w, hF, hR, hU, hC, hQ => by
    have hnil : L = [] := List.length_eq_zero_iff.mp hm
    subst hnil
    refine ⟨?_, ?_⟩
    · apply List.eq_nil_iff_forall_not_mem.mpr
      intro i hi
      obtain ⟨h1, o, ho, -⟩ := mem_ready.mp hi
      obtain ⟨x, hx⟩ := (hL.un i (getD_of ho).1).mp h1
      cases hx
    · obtain ⟨rfl, hH⟩ := hC
      exact hQ ρ U a w .refl (fun j hj => .inl hj) hF (hR.sub fun j b hb => by rw [hH]; exact hb)
  | m + 1, L, listed, hm, hL, ρ, U, τ, H, a, w, hF, hR, hU, hC, hQ => by
    refine ⟨fun hnil => ?_, fun i hi => ?_⟩
    · -- the first one that is left may come up
      exfalso
      cases L with
      | nil => cases hm
      | cons p r =>
        obtain ⟨o, ho, hio⟩ := hL.ok p (List.mem_cons_self ..)
        obtain ⟨hlt, hgd⟩ := getD_of ho
        have hmem : p.1 ∈ Region.ready .any ops listed := by
          rw [mem_ready]
          refine ⟨(hL.un p.1 hlt).mpr ⟨p.2, List.mem_cons_self ..⟩, o, ho, fun e he hb => ?_⟩
          have hlow := hL.low p.1 hlt e (by rw [hgd]; exact he) hb
          have hes : e.on < listed.size := by rw [hL.size]; omega
          refine (listed_of hes).mp ?_
          cases hl : listed.getD e.on true with
          | true => rfl
          | false =>
            obtain ⟨x, hx⟩ := (hL.un e.on (by omega)).mp hl
            rcases List.mem_cons.mp hx with hx | hx
            · rw [← hx] at hlow; simp at hlow
            · have := ((List.pairwise_cons.mp hL.pw).1 _ hx).1
              simp only at this
              omega
        rw [hnil] at hmem
        cases hmem
    · obtain ⟨hun, o, ho, hall⟩ := mem_ready.mp hi
      obtain ⟨hlt, hgd⟩ := getD_of ho
      obtain ⟨x, hx⟩ := (hL.un i hlt).mp hun
      obtain ⟨pre, post, rfl⟩ := List.append_of_mem hx
      obtain ⟨o', ho', hio⟩ := hL.ok (i, x) hx
      have hoo : o' = o := by rw [ho] at ho'; exact (Option.some.inj ho').symm
      subst hoo
      have hpw := List.pairwise_append.mp hL.pw
      have hind : ∀ y ∈ pre.map (·.2), Ind y x := fun y hy => by
        obtain ⟨p, hp, rfl⟩ := List.mem_map.mp hy
        have h1 := hpw.2.2 p hp (i, x) (List.mem_cons_self ..)
        rcases h1.2.1 with h2 | h2
        · obtain ⟨op, hop, -⟩ := hL.ok p (List.mem_append_left _ hp)
          have hplt := (getD_of hop).1
          exact absurd h2 (not_before hL hplt ((hL.un p.1 hplt).mpr ⟨p.2, List.mem_append_left _ hp⟩) i hlt (fun e he hb => hall e (by rw [hgd] at he; exact he) hb))
        · exact h2
      have hitem : ∀ p ∈ pre ++ (i, x) :: post, ItemOk cl p.2 := fun p hp => by
        obtain ⟨_, _, h⟩ := hL.ok p hp
        exact h.iok
      have hC2 : Chain cl (x :: ((pre ++ post).map (·.2))) τ H τF HF := by
        rw [List.map_append, List.map_cons] at hC
        rw [List.map_append]
        exact move_front hio.iok (fun y hy => by
          obtain ⟨p, hp, rfl⟩ := List.mem_map.mp hy
          exact hitem p (List.mem_append_left _ hp)) (fun y hy => by
          obtain ⟨p, hp, rfl⟩ := List.mem_map.mp hy
          exact hitem p (List.mem_append_right _ (List.mem_cons_of_mem _ hp))) hind hC
      obtain ⟨τ1, H1, ⟨T, v, hT, hr, hd⟩, hC3⟩ := hC2
      have hT2 : T.get = τ := funext hT
      subst hT2
      refine op_wp ho hio.sok hF hR (fun j a b => hU (i, x) hx j a b) hr hd fun ρ' U' a' w' hm1 hU1 hR1 hF1 => ?_
      have hsub : ∀ p ∈ pre ++ post, p ∈ pre ++ (i, x) :: post := fun p hp => by
        rcases List.mem_append.mp hp with hp | hp
        · exact List.mem_append_left _ hp
        · exact List.mem_append_right _ (List.mem_cons_of_mem _ hp)
      have hne : ∀ p ∈ pre ++ post, p.1 ≠ i := fun p hp => by
        rcases List.mem_append.mp hp with hp | hp
        · have := (hpw.2.2 p hp (i, x) (List.mem_cons_self ..)).1
          simp only at this; omega
        · have := ((List.pairwise_cons.mp hpw.2.1).1 p hp).1
          simp only at this; omega
      have hnames : ∀ p ∈ pre ++ post, ∀ j, p.2.c ≤ j → j < p.2.d → ¬ (x.c ≤ j ∧ j < x.d) := fun p hp j h1 h2 h3 => by
        rcases List.mem_append.mp hp with hp | hp
        · have := (hpw.2.2 p hp (i, x) (List.mem_cons_self ..)).2.2 j h1 h2
          simp only at this; omega
        · have := ((List.pairwise_cons.mp hpw.2.1).1 p hp).2.2 j h3.1 h3.2
          omega
      refine region_sound m (pre ++ post) (listed.setIfInBounds i true) (by simp at hm ⊢; omega) ⟨fun p hp => hL.ok p (hsub p hp), ?_, by rw [Array.size_setIfInBounds]; exact hL.size, fun k hk => ?_, fun j hj hjl e he hb => ?_, hL.low⟩ ρ' U' τ1 H1 a' w' hF1 hR1 (fun p hp j h1 h2 hUj => ?_) hC3 (fun ρ2 U2 a2 w2 hm2 hU2 hF2 hR2 => ?_)
      · refine hL.pw.sublist ?_
        exact List.Sublist.append_left (List.sublist_cons_self _ _) _
      · have hks : k < listed.size := by rw [hL.size]; exact hk
        by_cases e : i = k
        · subst e
          constructor
          · intro h
            simp [Array.getD, hks] at h
          · rintro ⟨y, hy⟩
            exact absurd rfl (hne _ hy)
        · have e1 : (listed.setIfInBounds i true).getD k true = listed.getD k true := by
            simp only [Array.getD_eq_getD_getElem?, Array.getElem?_setIfInBounds_ne e]
          rw [e1, hL.un k hk]
          constructor
          · rintro ⟨y, hy⟩
            refine ⟨y, ?_⟩
            rcases List.mem_append.mp hy with hy | hy
            · exact List.mem_append_left _ hy
            · rcases List.mem_cons.mp hy with hy | hy
              · injection hy with h1 h2; exact absurd h1.symm e
              · exact List.mem_append_right _ hy
          · rintro ⟨y, hy⟩; exact ⟨y, hsub _ hy⟩
      · have key : listed.getD e.on false = true := by
          by_cases e1 : i = j
          · subst e1
            exact hall e (by rw [hgd] at he; exact he) hb
          · have e2 : (listed.setIfInBounds i true).getD j true = listed.getD j true := by
              simp only [Array.getD_eq_getD_getElem?, Array.getElem?_setIfInBounds_ne e1]
            rw [e2] at hjl
            exact hL.closed j hj hjl e he hb
        by_cases e3 : i = e.on
        · rw [← e3]
          have hks : i < listed.size := by rw [hL.size]; exact hlt
          simp [Array.getD, hks]
        · rw [getD_set_ne false e3]; exact key
      · rcases hU1 j hUj with h3 | h3
        · exact hU p (hsub p hp) j h1 h2 h3
        · exact hnames p hp j h1 h2 h3
      · refine hQ ρ2 U2 a2 w2 (hm1.trans hm2) (fun j hj => ?_) hF2 hR2
        rcases hU2 j hj with h3 | ⟨p, hp, h3⟩
        · rcases hU1 j h3 with h4 | h4
          · exact .inl h4
          · exact .inr ⟨(i, x), hx, h4⟩
        · exact .inr ⟨p, hsub p hp, h3⟩
end
end Go.Proofs.YtedipingocmmdaaGreat.Ev

