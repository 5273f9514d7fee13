/- What the document says of a history is what the program says of it: in plain lists. -/
import Derived.Test.YtmllbailfbjoeaaRef43h
import Derived.Test.YtmllbailfbjoeaaAsp10
namespace Go.Proofs.Ytmllbailfbjoeaa

theorem sure_mem {l : List Kall} {x : Kall} (hx : x ∈ l) : (!unsureB (valuesS l) x) = sureB l x := by
  unfold unsureB sureB
  by_cases hp : x.put = true
  · by_cases hd : doneB x = true
    · have : (valuesS l).contains x.value = decide ((putsS l x.value).length = 1) := by
        rw [Bool.eq_iff_iff]
        simp only [List.contains_iff_mem, decide_eq_true_eq]
        unfold valuesS
        constructor
        · intro h
          obtain ⟨y, hy, he⟩ := List.mem_map.1 h
          have := (List.mem_filter.1 hy).2
          simp only [soleB, Bool.and_eq_true, decide_eq_true_eq] at this
          rw [← he]; exact this.2
        · intro h
          refine List.mem_map.2 ⟨x, List.mem_filter.2 ⟨hx, ?_⟩, rfl⟩
          simp [soleB, hp, h]
      rw [hp, hd, this]; cases decide ((putsS l x.value).length = 1) <;> rfl
    · simp [hp, hd]
  · simp [hp]

theorem sure_filter (l : List Kall) : sureS l = l.filter (sureB l) := List.filter_congr (fun _ hx => sure_mem hx)

theorem under_same (l : List Kall) : runderS l = underS l := by
  unfold runderS underS
  rw [sure_filter, List.filter_filter]
  congr 1
  exact List.filter_congr (fun x _ => by simp only [rundB, underB]; rw [Bool.and_comm])

/-- The document's question at a take that found nothing. -/
def rdenB (l : List Kall) (x : Kall) : Bool := l.any (fun p => sureB l p && thereB l x p) && askB x
def rdeniedS (l : List Kall) : List Int := (l.filter (rdenB l)).map Kall.beg

theorem denied_same (l : List Kall) : rdeniedS l = deniedS l := by
  unfold rdeniedS deniedS
  congr 1
  refine List.filter_congr (fun x _ => ?_)
  unfold rdenB denB
  rw [sure_filter, List.any_filter, Bool.and_comm]

/-- Rows of pairs, by whatever question. -/
def rowG (q : Kall → Kall → Bool) (S : List Kall) (a : Kall) (k : Nat) : List Pr := ((S.take k).filter (q a)).map fun b => ⟨a.value, b.value⟩
def allG (q : Kall → Kall → Bool) (S : List Kall) : Nat → List Pr
  | 0 => []
  | i + 1 => allG q S i ++ rowG q S (S.getD i Kall.none) S.length

theorem rowG_len (q : Kall → Kall → Bool) (S : List Kall) (a : Kall) (k : Nat) : (rowG q S a k).length ≤ k := by
  unfold rowG
  rw [List.length_map]
  exact ints_len_filter S _ k
theorem allG_len (q : Kall → Kall → Bool) (S : List Kall) : ∀ i, (allG q S i).length ≤ i * S.length
  | 0 => by simp [allG]
  | i + 1 => by
    have := allG_len q S i
    have h2 := rowG_len q S (S.getD i Kall.none) S.length
    rw [allG, List.length_append, Nat.succ_mul]
    omega
theorem rowG_yes {q : Kall → Kall → Bool} {S : List Kall} {a : Kall} {k : Nat} (h : k < S.length) (hp : q a (S.getD k Kall.none) = true) : rowG q S a (k + 1) = rowG q S a k ++ [⟨a.value, (S.getD k Kall.none).value⟩] := by
  unfold rowG
  rw [filter_take_yes (p := q a) (d := Kall.none) h hp, List.map_append]; rfl
theorem rowG_no {q : Kall → Kall → Bool} {S : List Kall} {a : Kall} {k : Nat} (h : k < S.length) (hp : q a (S.getD k Kall.none) = false) : rowG q S a (k + 1) = rowG q S a k := by
  unfold rowG
  rw [filter_take_no (p := q a) (d := Kall.none) h hp]

theorem allG_flat (q : Kall → Kall → Bool) (S : List Kall) : ∀ i, i ≤ S.length → allG q S i = (S.take i).flatMap fun a => (S.filter (q a)).map fun b => (⟨a.value, b.value⟩ : Pr)
  | 0, _ => by simp [allG]
  | i + 1, h => by
    rw [allG, allG_flat q S i (by omega), take_succ_K S i (by omega), List.flatMap_append]
    simp [rowG]

theorem allP_G (l S : List Kall) : ∀ i, allP l S i = allG (pairB l) S i
  | 0 => rfl
  | i + 1 => by rw [allP, allG, allP_G l S i]; rfl

/-- The document's question at two puts. -/
def rpairB (l : List Kall) (a b : Kall) : Bool := sureB l a && sureB l b && pairB l a b
def rpassedS (l : List Kall) : List Pr := allG (rpairB l) l l.length

theorem flat_sure (l : List Kall) : ∀ o : List Kall, (o.flatMap fun a => (l.filter (rpairB l a)).map fun b => (⟨a.value, b.value⟩ : Pr)) = (o.filter (sureB l)).flatMap fun a => ((l.filter (sureB l)).filter (pairB l a)).map fun b => (⟨a.value, b.value⟩ : Pr)
  | [] => rfl
  | a :: o => by
    rw [List.flatMap_cons, flat_sure l o]
    by_cases h : sureB l a = true
    · rw [List.filter_cons_of_pos h, List.flatMap_cons, List.filter_filter]
      congr 2
      refine List.filter_congr (fun b _ => ?_)
      simp only [rpairB, h, Bool.true_and]
      rw [Bool.and_comm]
    · rw [List.filter_cons_of_neg h]
      have : l.filter (rpairB l a) = [] := List.filter_eq_nil_iff.2 (fun b _ => by simp [rpairB, h])
      rw [this]; rfl

theorem passed_same (l : List Kall) : rpassedS l = passedS l := by
  unfold rpassedS passedS
  rw [allP_G, allG_flat _ _ _ (Nat.le_refl _), allG_flat _ _ _ (Nat.le_refl _), List.take_length, List.take_length, flat_sure, sure_filter]

/-- The document's question at a take. -/
def rfreshB (l : List Kall) (out : List Int) (x : Kall) : Bool := (!x.put && doneB x && !l.any (fun p => p.put && p.value == x.value && decide (p.beg < x.fin))) && !out.any (fun v => v == x.value)

theorem rfresh_same (l : List Kall) (out : List Int) (x : Kall) : rfreshB l out x = freshB l out x := by
  unfold rfreshB freshB putsS
  have h1 : l.any (fun p => p.put && p.value == x.value && decide (p.beg < x.fin)) = (l.filter fun y => !noPut x.value y).any (fun p => decide (p.beg < x.fin)) := by
    rw [List.any_filter]
    congr 1
    funext p
    simp only [noPut]
    cases p.put
    · simp
    · by_cases h : p.value = x.value
      · simp [h]
      · have h1 : (p.value == x.value) = false := by simpa using h
        have h2 : (p.value != x.value) = true := by simpa using h
        rw [h1, h2]; simp
  have h2 : out.any (fun v => v == x.value) = out.contains x.value := by
    rw [← any_contains]
    congr 1
    funext v
    rw [Bool.eq_iff_iff, beq_iff_eq, beq_iff_eq]
    exact eq_comm
  rw [h1, h2]
  simp only [Bool.and_assoc]
  congr 2
  rw [Bool.and_comm]

def openN (l : List Kall) : Nat := (l.filter fun x => x.opn).length
theorem openN_le (l : List Kall) (k : Nat) : openN (l.take k) ≤ k := ints_len_filter l _ k
theorem openN_step {l : List Kall} {k : Nat} (h : k < l.length) : openN (l.take (k + 1)) = openN (l.take k) + (if (l.getD k Kall.none).opn = true then 1 else 0) := by
  unfold openN
  rw [take_succ_K l k h, List.filter_append, List.length_append]
  congr 1
  generalize l.getD k Kall.none = x
  by_cases h1 : x.opn = true <;> simp [h1]
theorem settled_open (l : List Kall) : (!l.any (fun x => x.opn)) = decide ((openN l : Int) = 0) := by
  unfold openN
  rw [Bool.eq_iff_iff]
  simp

theorem wrong_sum (l : List Kall) : wrongS l = decide (0 < (passedS l).length + (freshS l).length + (twiceS l).length + (deniedS l).length) := by
  unfold wrongS
  rw [Bool.eq_iff_iff]
  simp only [Bool.or_eq_true, decide_eq_true_eq]
  omega

end Go.Proofs.Ytmllbailfbjoeaa
