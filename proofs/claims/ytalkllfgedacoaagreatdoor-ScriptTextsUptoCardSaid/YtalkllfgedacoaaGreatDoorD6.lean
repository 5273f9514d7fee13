/- Plain: an event's line, piece by piece, as both ways put it together; runs of like picks. -/
import Derived.Test.YtalkllfgedacoaaGreatDoorD5
namespace Go.Proofs.YtalkllfgedacoaaGreatDoor
open Go.RowKit Go.Sort

theorem sayL_one (nm x : ByteArray) : sayL nm [x] = nm ++ (⟨#[32]⟩ ++ x) := by
  have h := sayL_snoc nm [] x
  rw [List.nil_append, sayL_nil] at h
  rw [h, ByteArray.append_assoc]
theorem sayL_two (nm x y : ByteArray) : sayL nm [x, y] = nm ++ (⟨#[32]⟩ ++ x ++ (⟨#[32]⟩ ++ y)) := by
  have h := sayL_snoc nm [x] y
  rw [List.singleton_append, sayL_one] at h
  rw [h]
  simp only [ByteArray.append_assoc]
theorem evS_pick1 {e : Ev} {n : Nat} (hk : e.kind = 1) (hn : ¬ 1 < n) : evS e n = w_pickS ++ (⟨#[32]⟩ ++ itoaS e.thread) := by
  unfold evS evH evW
  rw [if_pos hk, if_pos hk, if_neg hn, List.append_nil, sayL_one]
theorem evS_pickN {e : Ev} {n : Nat} (hk : e.kind = 1) (hn : 1 < n) : evS e n = w_pickS ++ (⟨#[32]⟩ ++ itoaS e.thread ++ (⟨#[32]⟩ ++ itoaS n)) := by
  unfold evS evH evW
  rw [if_pos hk, if_pos hk, if_pos hn, List.singleton_append, sayL_two]
theorem bext {a b : ByteArray} (h : a.data.toList = b.data.toList) : a = b := ByteArray.ext (Array.toList_inj.1 h)
theorem sayL_list (nm : ByteArray) (l : List ByteArray) : (sayL nm l).data.toList = nm.data.toList ++ Lib.joinTail [32] (l.map (·.data.toList)) := by unfold sayL; simp
theorem app_list (a b : ByteArray) : (a ++ b).data.toList = a.data.toList ++ b.data.toList := by rw [ByteArray.data_append, Array.toList_append]
theorem sayL_cut (nm x : ByteArray) (y : ByteArray) (l : List ByteArray) : sayL nm (x :: y :: l) = nm ++ (⟨#[32]⟩ ++ x) ++ ⟨#[32]⟩ ++ sayL y l := by
  refine bext ?_
  simp [sayL_list, Lib.joinTail, List.append_assoc]
theorem callW_say (r : Rq) : sayR r = (match callW r with | [] => ⟨#[]⟩ | y :: l => sayL y l) := by
  unfold callW
  by_cases h : sayR r = ⟨#[]⟩
  · rw [if_pos h]
    simp only
    rw [sayL_nil, h]
  · rw [if_neg h]
    exact (sayR_back h).2
theorem evS_callE {e : Ev} {n : Nat} (hk : e.kind = 2) : evS e n = w_callS ++ (⟨#[32]⟩ ++ itoaS e.thread) ++ ⟨#[32]⟩ ++ sayR e.rq := by
  have h := callW_say e.rq
  unfold evS evH evW
  have h1 : ¬ e.kind = 1 := by rw [hk]; decide
  rw [if_neg h1, if_pos hk, if_neg h1, if_pos hk]
  cases hc : callW e.rq with
  | nil =>
    exfalso
    unfold callW at hc
    split at hc <;> cases hc
  | cons y l =>
    rw [hc] at h
    simp only at h
    rw [sayL_cut, h]
/-- A pump's line, up to so many outlets. -/
def pumpS (e : Ev) (k : Nat) : ByteArray := sayL w_pumpS (itoaS e.thread :: itoaS e.inn :: (e.outs.take k).map itoaS)
theorem pumpS_zero (e : Ev) : pumpS e 0 = w_pumpS ++ (⟨#[32]⟩ ++ itoaS e.thread) ++ ⟨#[32]⟩ ++ itoaS e.inn := by
  unfold pumpS
  rw [List.take_zero, List.map_nil, sayL_cut, sayL_nil]
theorem pumpS_step {e : Ev} {k : Nat} (hk : k < e.outs.length) : pumpS e (k + 1) = pumpS e k ++ ⟨#[32]⟩ ++ itoaS (e.outs.getD k 0) := by
  unfold pumpS
  have h1 : e.outs.take (k + 1) = e.outs.take k ++ [e.outs.getD k 0] := by
    rw [List.take_succ_eq_append_getElem hk, List.getD, List.getElem?_eq_getElem hk]
    rfl
  rw [h1, List.map_append, List.map_cons, List.map_nil, ← List.cons_append, ← List.cons_append, sayL_snoc]
theorem pumpS_all {e : Ev} {n : Nat} (h1 : ¬ e.kind = 1) (h2 : ¬ e.kind = 2) : evS e n = pumpS e e.outs.length := by
  unfold evS evH evW pumpS
  rw [if_neg h1, if_neg h2, if_neg h1, if_neg h2, List.take_length]
theorem pumpS_size {e : Ev} (h1 : In64 e.thread) (h2 : In64 e.inn) (h3 : ∀ x ∈ e.outs, In64 x) : ∀ k, k ≤ e.outs.length → (pumpS e k).size ≤ 64 + 22 * k
  | 0, _ => by
    have a := itoaS_size h1
    have b := itoaS_size h2
    have e1 : w_pumpS.size = 4 := rfl
    have e2 : (⟨#[32]⟩ : ByteArray).size = 1 := rfl
    rw [pumpS_zero, ByteArray.size_append, ByteArray.size_append, ByteArray.size_append, ByteArray.size_append, e1, e2]
    omega
  | k + 1, hk => by
    have ih := pumpS_size h1 h2 h3 k (by omega)
    have hm : e.outs.getD k 0 ∈ e.outs := by rw [List.getD, List.getElem?_eq_getElem (by omega)]; exact List.getElem_mem _
    have a := itoaS_size (h3 _ hm)
    have e2 : (⟨#[32]⟩ : ByteArray).size = 1 := rfl
    rw [pumpS_step (by omega), ByteArray.size_append, ByteArray.size_append, e2]
    omega

/-! Runs. -/
theorem run_more {e : Ev} {r : List Ev} {i : Nat} (h1 : i < r.length) (h2 : i < 999) (h3 : r.getD i evNone = e) : runQ e (999 - i) (r.drop i) = runQ e (999 - (i + 1)) (r.drop (i + 1)) + 1 := by
  have e1 : r.drop i = r.getD i evNone :: r.drop (i + 1) := by
    rw [List.drop_eq_getElem_cons h1, List.getD, List.getElem?_eq_getElem h1]
    rfl
  rw [e1, show 999 - i = (999 - (i + 1)) + 1 from by omega, runQ, if_pos h3]
theorem run_far {e : Ev} {r : List Ev} {i : Nat} (h : 999 ≤ i) : runQ e (999 - i) (r.drop i) = 0 := by
  rw [show 999 - i = 0 from by omega]
  rfl
theorem run_out {e : Ev} {r : List Ev} {i : Nat} (h : r.length ≤ i) : runQ e (999 - i) (r.drop i) = 0 := by
  rw [List.drop_of_length_le h]
  cases 999 - i <;> rfl
theorem run_not {e : Ev} {r : List Ev} {i : Nat} (h1 : i < r.length) (h2 : i < 999) (h3 : ¬ r.getD i evNone = e) : runQ e (999 - i) (r.drop i) = 0 := by
  have e1 : r.drop i = r.getD i evNone :: r.drop (i + 1) := by
    rw [List.drop_eq_getElem_cons h1, List.getD, List.getElem?_eq_getElem h1]
    rfl
  rw [e1, show 999 - i = (999 - (i + 1)) + 1 from by omega, runQ, if_neg h3]
theorem grp_pick {e : Ev} {r : List Ev} (hk : e.kind = 1) : grpQ (e :: r) = runQ e 999 r + 1 := by rw [grpQ, if_pos hk]

end Go.Proofs.YtalkllfgedacoaaGreatDoor
