/- Notes of a history: as cells of a row; the calls that are gathered of them, step by step. -/
import Derived.Test.YtmllbailfbjoeaaDelK
import Derived.Maps.OwnSet
namespace Go.Proofs.Ytmllbailfbjoeaa
open Go.RowKit Go.Sort Go.Maps

/-- A line of a history. -/
structure Nte where
  (kind thread seq time rkind rarg rvalue : Int)
  (rdef : Bool)
  (ca : Option Addr)
  (cl cc : Nat)
  (qseq qcase qcode qvalue : Int)

def Nte.cells (a : Nte) : List Value := [.int .i64 a.kind, .int .i64 a.thread, .int .i64 a.seq, .int .i64 a.time, .int .i64 a.rkind, .int .i64 a.rarg, .int .i64 a.rvalue, .bool a.rdef, .slice a.ca a.cl a.cc, .int .i64 a.qseq, .int .i64 a.qcase, .int .i64 a.qcode, .int .i64 a.qvalue]
def Nte.none : Nte := ⟨0, 0, 0, 0, 0, 0, 0, false, .none, 0, 0, 0, 0, 0, 0⟩
abbrev nbox (a : Nte) : Obj := .cells #[.int .i64 a.kind, .int .i64 a.thread, .int .i64 a.seq, .int .i64 a.time, .int .i64 a.rkind, .int .i64 a.rarg, .int .i64 a.rvalue, .bool a.rdef, .slice a.ca a.cl a.cc, .int .i64 a.qseq, .int .i64 a.qcase, .int .i64 a.qcode, .int .i64 a.qvalue] 119

instance : Cellful Nte where
  cells := Nte.cells
  s := 13
  dflt := Nte.none
  len := fun _ => rfl
  one := fun a u hu => by
    simp only [Nte.cells, List.mem_cons, List.not_mem_nil, or_false] at hu
    rcases hu with rfl | rfl | rfl | rfl | rfl | rfl | rfl | rfl | rfl | rfl | rfl | rfl | rfl <;> rfl

/-- The thread of each note is a number of 64 bits. -/
def ThreadsOk (l : List Nte) : Prop := ∀ a ∈ l, (Lit.int .i64 a.thread).wf = true

/-- What is gathered so far: the calls, and the open one of each thread. -/
structure CSt where
  out : List Kall
  last : Int → Option Nat

def endK (x : Kall) (i : Nat) (n : Nte) : Kall := ⟨x.beg, i, false, x.put, if x.put then x.value else n.qvalue, n.qcode⟩

def begK (N i : Nat) (n : Nte) : Kall := ⟨i, N, true, n.rkind == 8, n.rvalue, 0⟩

def stepC (N : Nat) (s : CSt) (i : Nat) (n : Nte) : CSt :=
  if n.kind = 1 then
    if n.rkind = 8 ∨ n.rkind = 9 then ⟨s.out ++ [begK N i n], fun t => if t = n.thread then some s.out.length else s.last t⟩
    else ⟨s.out, fun t => if t = n.thread then .none else s.last t⟩
  else if n.kind = 3 then
    match s.last n.thread with
    | .none => s
    | some j => ⟨s.out.set j (endK (s.out.getD j Kall.none) i n), fun t => if t = n.thread then .none else s.last t⟩
  else s

def runC (ns : List Nte) : Nat → CSt
  | 0 => ⟨[], fun _ => .none⟩
  | k + 1 => stepC ns.length (runC ns k) k (ns.getD k Nte.none)

def callsS (ns : List Nte) : List Kall := (runC ns ns.length).out

theorem runC_len (ns : List Nte) : ∀ k, (runC ns k).out.length ≤ k ∧ ∀ t j, (runC ns k).last t = some j → j < (runC ns k).out.length
  | 0 => ⟨by simp [runC], fun t j h => by simp [runC] at h⟩
  | k + 1 => by
    have ih := runC_len ns k
    rw [runC]
    generalize runC ns k = s at *
    generalize ns.getD k Nte.none = n
    unfold stepC
    split
    · split
      · refine ⟨by simp; omega, fun t j h => ?_⟩
        simp only [List.length_append, List.length_cons, List.length_nil]
        simp only at h
        split at h
        · injection h with h; omega
        · have := ih.2 t j h; omega
      · refine ⟨by simp; omega, fun t j h => ?_⟩
        simp only at h
        split at h
        · cases h
        · exact ih.2 t j h
    · split
      · split
        · exact ⟨by omega, ih.2⟩
        · refine ⟨by simp; omega, fun t j h => ?_⟩
          simp only [List.length_set]
          simp only at h
          split at h
          · cases h
          · exact ih.2 t j h
      · exact ⟨by omega, ih.2⟩

/-- The map holds the open calls. -/
structure MapIs (D : DataW Unit) (last : Int → Option Nat) : Prop where
  isMap : IsMap D
  has : ∀ t, Maps.has D (.int .i64 t) = (last t).isSome
  at_ : ∀ t j, last t = some j → D.atKey (.int .i64 t) (.lit (.int .i64 0)) = .lit (.int .i64 j)

theorem mapIs_empty : MapIs (.map []) (fun _ => .none) := ⟨isMap_empty, fun _ => rfl, fun _ _ h => by cases h⟩

theorem MapIs.del {D : DataW Unit} {last : Int → Option Nat} (h : MapIs D last) (t : Int) : MapIs (D.del (.int .i64 t)) (fun u => if u = t then .none else last u) := by
  refine ⟨h.isMap.del _, fun u => ?_, fun u j hj => ?_⟩
  · by_cases hu : u = t
    · subst hu; rw [if_pos rfl]; exact has_del_same
    · rw [if_neg hu, has_del_other (by intro e; injection e with _ e; exact hu e)]; exact h.has u
  · by_cases hu : u = t
    · rw [if_pos hu] at hj; cases hj
    · rw [if_neg hu] at hj
      rw [atKey_del_other (by intro e; injection e with _ e; exact hu e)]
      exact h.at_ u j hj

theorem MapIs.put {D : DataW Unit} {last : Int → Option Nat} (h : MapIs D last) (t : Int) (i : Nat) : MapIs (D.put (.int .i64 t) (.lit (.int .i64 i))) (fun u => if u = t then some i else last u) := by
  refine ⟨h.isMap.put _ _, fun u => ?_, fun u j hj => ?_⟩
  · by_cases hu : u = t
    · subst hu; rw [if_pos rfl]; exact has_put_same h.isMap (by exact True.intro) _
    · rw [if_neg hu, has_put_other (by intro e; injection e with _ e; exact hu e)]; exact h.has u
  · by_cases hu : u = t
    · rw [if_pos hu] at hj
      injection hj with hj
      subst hj hu
      exact atKey_put_same h.isMap (by exact True.intro) _ _
    · rw [if_neg hu] at hj
      rw [atKey_put_other (by intro e; injection e with _ e; exact hu e)]
      exact h.at_ u j hj

theorem int_law : Keyed Try.prog 3 := int_keyed Try.underlying3
theorem int_zero (w : World) : (zeroValue 3).run Try.prog w = .ok (.int .i64 0) w := by kernel_rfl

end Go.Proofs.Ytmllbailfbjoeaa
