/- The calls that the program gathers are the document's. -/
import Derived.Test.YtmllbailfbjoeaaRef43e
namespace Go.Proofs.Ytmllbailfbjoeaa

/-- A call that is open, ended by what is still to come. -/
def finK (ns : List Nte) (t : Int) (k : Nat) (x : Kall) : Kall :=
  if endL t (ns.drop k) k < 0 then x else endK x (endL t (ns.drop k) k).toNat (ns.getD (endL t (ns.drop k) k).toNat Nte.none)

def runFrom (ns : List Nte) : Nat → Nat → CSt → CSt
  | 0, _, s => s
  | m + 1, k, s => runFrom ns m (k + 1) (stepC ns.length s k (ns.getD k Nte.none))

theorem runC_from (ns : List Nte) : ∀ m k, runC ns (k + m) = runFrom ns m k (runC ns k)
  | 0, k => rfl
  | m + 1, k => by
    rw [runFrom, ← runC, ← runC_from ns m (k + 1)]
    congr 1
    omega

def tailC (ns : List Nte) : Nat → Nat → List Kall
  | 0, _ => []
  | m + 1, k => (if isCall (ns.getD k Nte.none) = true then [rcall ns k] else []) ++ tailC ns m (k + 1)

theorem rcalls_tail (ns : List Nte) : ∀ m k, rcallsTo ns (k + m) = rcallsTo ns k ++ tailC ns m k
  | 0, k => by simp [tailC]
  | m + 1, k => by
    rw [show k + (m + 1) = (k + 1) + m by omega, rcalls_tail ns m (k + 1), rcallsTo, tailC]
    split <;> simp

/-- Whose open call number j is. -/
def Owns (s : CSt) (own : Nat → Option Int) : Prop := ∀ t j, s.last t = some j ↔ (own j = some t ∧ j < s.out.length)

def closeK (ns : List Nte) (own : Nat → Option Int) (k : Nat) (out : List Kall) : List Kall := out.mapIdx fun j x => match own j with
  | some t => finK ns t k x
  | none => x

theorem fin_step {ns : List Nte} {t : Int} {k : Nat} (h : k < ns.length) (x : Kall) : finK ns t k x =
    if (ns.getD k Nte.none).thread = t then (if (ns.getD k Nte.none).kind = 1 then x else if (ns.getD k Nte.none).kind = 3 then endK x k (ns.getD k Nte.none) else finK ns t (k + 1) x) else finK ns t (k + 1) x := by
  unfold finK
  rw [endL_step h]
  by_cases h1 : (ns.getD k Nte.none).thread = t
  · rw [if_pos h1, if_pos h1]
    by_cases h2 : (ns.getD k Nte.none).kind = 1
    · rw [if_pos h2, if_pos h2]; rfl
    · rw [if_neg h2, if_neg h2]
      by_cases h3 : (ns.getD k Nte.none).kind = 3
      · rw [if_pos h3, if_pos h3, if_neg (by omega)]; rfl
      · rw [if_neg h3, if_neg h3]
  · rw [if_neg h1, if_neg h1]

theorem rcall_fin {ns : List Nte} {k : Nat} : rcall ns k = finK ns (ns.getD k Nte.none).thread (k + 1) (begK ns.length k (ns.getD k Nte.none)) := rfl

theorem close_congr {ns : List Nte} {own own' : Nat → Option Int} {k k' : Nat} {out out' : List Kall} (hl : out.length = out'.length)
    (h : ∀ j, j < out.length → (match own j with | some t => finK ns t k (out.getD j Kall.none) | none => out.getD j Kall.none) = (match own' j with | some t => finK ns t k' (out'.getD j Kall.none) | none => out'.getD j Kall.none)) :
    closeK ns own k out = closeK ns own' k' out' := by
  unfold closeK
  apply List.ext_getElem
  · simp [hl]
  · intro j h1 h2
    simp only [List.length_mapIdx] at h1 h2
    have := h j h1
    simp only [List.getElem_mapIdx]
    simpa [List.getD, h1, h2] using this

theorem close_end {ns : List Nte} {own : Nat → Option Int} {k : Nat} (h : ns.length ≤ k) (out : List Kall) : closeK ns own k out = out := by
  unfold closeK
  apply List.ext_getElem
  · simp
  · intro j h1 h2
    simp only [List.getElem_mapIdx]
    cases own j with
    | none => rfl
    | some t =>
      simp only [finK]
      rw [List.drop_of_length_le h]
      rfl

theorem close_append (ns : List Nte) (own : Nat → Option Int) (k : Nat) (out : List Kall) (x : Kall) : closeK ns own k (out ++ [x]) = closeK ns own k out ++ [match own out.length with | some t => finK ns t k x | none => x] := by
  unfold closeK
  rw [List.mapIdx_append]
  simp

theorem run_close (ns : List Nte) : ∀ (m k : Nat) (s : CSt) (own : Nat → Option Int), k + m = ns.length → Owns s own → (runFrom ns m k s).out = closeK ns own k s.out ++ tailC ns m k
  | 0, k, s, own, hk, _ => by
    rw [runFrom, tailC, close_end (by omega), List.append_nil]
  | m + 1, k, s, own, hk, ho => by
    have hkl : k < ns.length := by omega
    rw [runFrom, tailC]
    have hfs := fun t x => fin_step (ns := ns) (t := t) hkl x
    have hrf := rcall_fin (ns := ns) (k := k)
    generalize hx : ns.getD k Nte.none = x at *
    unfold stepC isCall
    by_cases h1 : x.kind = 1
    · rw [if_pos h1]
      by_cases h2 : x.rkind = 8 ∨ x.rkind = 9
      · rw [if_pos h2]
        have hb : (x.kind == 1 && (x.rkind == 8 || x.rkind == 9)) = true := by simpa [h1] using h2
        rw [hb, if_pos rfl]
        -- the new call is the thread's
        have hown : Owns ⟨s.out ++ [begK ns.length k x], fun t => if t = x.thread then some s.out.length else s.last t⟩ (fun j => if j = s.out.length then some x.thread else if own j = some x.thread then none else own j) := by
          intro t j
          simp only [List.length_append, List.length_cons, List.length_nil]
          by_cases ht : t = x.thread
          · subst ht
            rw [if_pos rfl]
            constructor
            · intro h; injection h with h; subst h; simp
            · rintro ⟨h, hj⟩
              by_cases hjo : j = s.out.length
              · rw [hjo]
              · rw [if_neg hjo] at h
                split at h
                · cases h
                · rename_i hne; exact absurd h hne
          · rw [if_neg ht, ho t j]
            constructor
            · rintro ⟨h, hj⟩
              rw [if_neg (by omega), if_neg (by rw [h]; intro e; injection e with e; exact ht e)]
              exact ⟨h, by omega⟩
            · rintro ⟨h, hj⟩
              by_cases hjo : j = s.out.length
              · rw [if_pos hjo] at h; injection h with h; exact absurd h.symm ht
              · rw [if_neg hjo] at h
                split at h
                · cases h
                · exact ⟨h, by omega⟩
        rw [run_close ns m (k + 1) _ _ (by omega) hown, close_append, if_pos rfl, List.append_assoc]
        congr 1
        · refine close_congr rfl fun j hj => ?_
          rw [if_neg (by omega)]
          cases hoj : own j with
          | none => simp
          | some t =>
            by_cases ht : t = x.thread
            · subst ht
              simp only [if_true]
              rw [hfs, if_pos rfl, if_pos h1]
            · rw [if_neg (by intro e; injection e with e; exact ht e)]
              simp only
              rw [hfs, if_neg (fun e => ht e.symm)]
        · rw [hrf]
      · rw [if_neg h2]
        have hb : (x.kind == 1 && (x.rkind == 8 || x.rkind == 9)) = false := by simpa [h1] using h2
        rw [hb, if_neg (by simp), List.nil_append]
        have hown : Owns ⟨s.out, fun t => if t = x.thread then none else s.last t⟩ (fun j => if own j = some x.thread then none else own j) := by
          intro t j
          simp only
          by_cases ht : t = x.thread
          · subst ht
            rw [if_pos rfl]
            constructor
            · intro h; cases h
            · rintro ⟨h, _⟩
              split at h
              · cases h
              · rename_i hne; exact absurd h hne
          · rw [if_neg ht, ho t j]
            constructor
            · rintro ⟨h, hj⟩
              rw [if_neg (by rw [h]; intro e; injection e with e; exact ht e)]
              exact ⟨h, hj⟩
            · rintro ⟨h, hj⟩
              split at h
              · cases h
              · exact ⟨h, hj⟩
        rw [run_close ns m (k + 1) _ _ (by omega) hown]
        congr 1
        refine close_congr rfl fun j hj => ?_
        cases hoj : own j with
        | none => simp
        | some t =>
          by_cases ht : t = x.thread
          · subst ht
            simp only [if_true]
            rw [hfs, if_pos rfl, if_pos h1]
          · rw [if_neg (by intro e; injection e with e; exact ht e)]
            simp only
            rw [hfs, if_neg (fun e => ht e.symm)]
    · rw [if_neg h1]
      have hb : (x.kind == 1 && (x.rkind == 8 || x.rkind == 9)) = false := by simp [h1]
      rw [hb, if_neg (show ¬ (false = true) by simp), List.nil_append]
      by_cases h3 : x.kind = 3
      · rw [if_pos h3]
        cases hla : s.last x.thread with
        | none =>
          simp only
          rw [run_close ns m (k + 1) s own (by omega) ho]
          congr 1
          refine close_congr rfl fun j hj => ?_
          cases hoj : own j with
          | none => rfl
          | some t =>
            simp only
            rw [hfs]
            by_cases ht : x.thread = t
            · have := (ho t j).2 ⟨hoj, hj⟩
              rw [← ht, hla] at this
              cases this
            · rw [if_neg ht]
        | some j0 =>
          simp only
          obtain ⟨hj0, hj0l⟩ := (ho x.thread j0).1 hla
          have hown : Owns ⟨s.out.set j0 (endK (s.out.getD j0 Kall.none) k x), fun t => if t = x.thread then none else s.last t⟩ (fun j => if own j = some x.thread then none else own j) := by
            intro t j
            simp only [List.length_set]
            by_cases ht : t = x.thread
            · subst ht
              rw [if_pos rfl]
              constructor
              · intro h; cases h
              · rintro ⟨h, _⟩
                split at h
                · cases h
                · rename_i hne; exact absurd h hne
            · rw [if_neg ht, ho t j]
              constructor
              · rintro ⟨h, hj⟩
                rw [if_neg (by rw [h]; intro e; injection e with e; exact ht e)]
                exact ⟨h, hj⟩
              · rintro ⟨h, hj⟩
                split at h
                · cases h
                · exact ⟨h, hj⟩
          rw [run_close ns m (k + 1) _ _ (by omega) hown]
          congr 1
          refine close_congr (by simp) fun j hj => ?_
          simp only [List.length_set] at hj
          by_cases hjj : j = j0
          · subst hjj
            rw [hj0, if_pos rfl, set_getD _ _ _ hj]
            simp only
            rw [hfs, if_pos rfl, if_neg h1, if_pos h3]
          · have hg : (s.out.set j0 (endK (s.out.getD j0 Kall.none) k x)).getD j Kall.none = s.out.getD j Kall.none := by
              simp only [List.getD]
              rw [List.getElem?_set_ne (fun e => hjj e.symm)]
            rw [hg]
            cases hoj : own j with
            | none => simp
            | some t =>
              by_cases ht : t = x.thread
              · subst ht
                have h2 := (ho x.thread j).2 ⟨hoj, hj⟩
                rw [hla] at h2
                injection h2 with h2
                exact absurd h2.symm hjj
              · rw [if_neg (by intro e; injection e with e; exact ht e)]
                simp only
                rw [hfs, if_neg (fun e => ht e.symm)]
      · rw [if_neg h3, run_close ns m (k + 1) s own (by omega) ho]
        congr 1
        refine close_congr rfl fun j hj => ?_
        cases own j with
        | none => rfl
        | some t =>
          simp only
          rw [hfs]
          split
          · first | rfl | rw [if_neg h1, if_neg h3]
          · rfl

/-- The calls are the document's. -/
theorem calls_same (ns : List Nte) : callsS ns = rcallsS ns := by
  have h := run_close ns ns.length 0 ⟨[], fun _ => none⟩ (fun _ => none) (by omega) (fun t j => by simp)
  have h2 := runC_from ns ns.length 0
  have h3 := rcalls_tail ns ns.length 0
  simp only [Nat.zero_add] at h2 h3
  unfold callsS rcallsS
  rw [h2, h3]
  show (runFrom ns ns.length 0 ⟨[], fun _ => none⟩).out = _
  rw [h]
  rfl

end Go.Proofs.Ytmllbailfbjoeaa
