/- A result that lies in a cell. -/
import Derived.Test.YtalkllfgedacoaaGreatDoorO4
import Derived.Lib.ItoaMem
import Derived.Deep.DeepCutAuto
import Derived.Deep.RegionHeld3
import Derived.Deep.WholeRow
import Derived.Great.Walk
import Derived.Test.YtalkllfgedacoaaGreatDoorO3
import Derived.OwnWalk
import Derived.Test.YtalkllfgedacoaaGreatDoorO2
import Derived.Laws.BytesString
import Derived.Lib.ItoaLen
import Derived.Test.YtalkllfgedacoaaGreatDoorO1
import Derived.Laws.ResultCell
import Derived.Laws.Rows
namespace Go.Proofs.YtalkllfgedacoaaGreatDoor
open Go.RowKit Go.Sort

theorem itoaS_no (c : UInt8) (hc : c ≠ 45) (hd : c.toNat < 48 ∨ 57 < c.toNat) (n : Int) : c ∉ (itoaS n).data.toList := by
  intro h
  have h' : c ∈ Lib.itoa n := by simpa [itoaS] using h
  have hdd : ∀ k, c ∉ Lib.decDigits k := fun k hk => by have := dec_digit k c hk; omega
  unfold Lib.itoa at h'
  split at h'
  · rcases List.mem_cons.1 h' with h1 | h1
    · exact hc h1
    · exact hdd _ h1
  · exact hdd _ h'
theorem bytes_app (a b : ByteArray) : (a ++ b).data.toList = a.data.toList ++ b.data.toList := by simp
theorem kaseS_no (x : Cse) : (32 : UInt8) ∉ (kaseS x).data.toList := by
  have h1 := itoaS_no 32 (by decide) (.inl (by decide)) x.handle
  have h2 := itoaS_no 32 (by decide) (.inl (by decide)) x.value
  unfold kaseS
  split
  · simp only [bytes_app, List.mem_append, not_or]
    exact ⟨⟨⟨⟨by decide, by decide⟩, h1⟩, by decide⟩, h2⟩
  · simp only [bytes_app, List.mem_append, not_or]
    exact ⟨⟨by decide, by decide⟩, h1⟩

/-- Which calls there are. -/
theorem name_ways (q : Reqr) (cs : List Cse) : nameS q cs = ⟨#[]⟩
    ∨ (nameS q cs = selS ∧ argsS q cs = (if q.dflt = true then [w_defS] else []) ++ cs.map kaseS ∧ q.kind = 3)
    ∨ (q.kind = 3 ∧ q.n = 1 ∧ (cs.getD 0 Cse.none).dir = 1 ∧ (nameS q cs = w_sendS ∨ nameS q cs = w_trysendS) ∧ argsS q cs = [itoaS (cs.getD 0 Cse.none).handle, itoaS (cs.getD 0 Cse.none).value])
    ∨ (q.kind = 3 ∧ q.n = 1 ∧ (cs.getD 0 Cse.none).dir ≠ 1 ∧ (nameS q cs = w_recvS ∨ nameS q cs = w_tryrecvS) ∧ argsS q cs = [itoaS (cs.getD 0 Cse.none).handle])
    ∨ (q.kind = 7 ∧ nameS q cs = w_cancelS ∧ argsS q cs = [itoaS q.arg, itoaS q.value])
    ∨ (q.kind = 8 ∧ nameS q cs = w_putS ∧ argsS q cs = [itoaS q.value])
    ∨ (q.kind = 9 ∧ nameS q cs = w_takeS ∧ argsS q cs = [])
    ∨ ((q.kind ≠ 3 ∧ q.kind ≠ 7 ∧ q.kind ≠ 8 ∧ q.kind ≠ 9) ∧ (nameS q cs = w_makeS ∨ nameS q cs = w_freeS ∨ nameS q cs = w_closeS ∨ nameS q cs = w_lenS ∨ nameS q cs = w_capS) ∧ argsS q cs = [itoaS q.arg]) := by
  by_cases h3 : q.kind = 3
  · have e : nameS q cs = namedS q cs := by unfold nameS; rw [if_pos h3]
    have ea : argsS q cs = (if nameS q cs = selS then (if q.dflt = true then [w_defS] else []) ++ cs.map kaseS
     else if (cs.getD 0 Cse.none).dir = 1 then [itoaS (cs.getD 0 Cse.none).handle, itoaS (cs.getD 0 Cse.none).value] else [itoaS (cs.getD 0 Cse.none).handle]) := by unfold argsS; rw [if_pos h3]
    by_cases hn : q.n = 1
    · by_cases h1 : (cs.getD 0 Cse.none).dir = 1
      · have e2 : namedS q cs = tryS q.dflt ++ ⟨#[115, 101, 110, 100]⟩ := by unfold namedS; rw [if_pos hn, if_pos h1]
        have hc : nameS q cs = w_sendS ∨ nameS q cs = w_trysendS := by rw [e, e2]; cases q.dflt; (left; decide +kernel); (right; decide +kernel)
        refine .inr (.inr (.inl ⟨h3, hn, h1, hc, ?_⟩))
        rw [ea, if_neg (by rcases hc with h | h <;> rw [h] <;> decide +kernel), if_pos h1]
      · by_cases h2 : (cs.getD 0 Cse.none).dir = 2
        · have e2 : namedS q cs = tryS q.dflt ++ ⟨#[114, 101, 99, 118]⟩ := by unfold namedS; rw [if_pos hn, if_neg h1, if_pos h2]
          have hc : nameS q cs = w_recvS ∨ nameS q cs = w_tryrecvS := by rw [e, e2]; cases q.dflt; (left; decide +kernel); (right; decide +kernel)
          refine .inr (.inr (.inr (.inl ⟨h3, hn, h1, hc, ?_⟩)))
          rw [ea, if_neg (by rcases hc with h | h <;> rw [h] <;> decide +kernel), if_neg h1]
        · have e2 : nameS q cs = selS := by rw [e]; unfold namedS; rw [if_pos hn, if_neg h1, if_neg h2]
          exact .inr (.inl ⟨e2, by rw [ea, if_pos e2], h3⟩)
    · have e2 : nameS q cs = selS := by rw [e]; unfold namedS; rw [if_neg hn]
      exact .inr (.inl ⟨e2, by rw [ea, if_pos e2], h3⟩)
  · have ea : argsS q cs = (if q.kind = 7 then [itoaS q.arg, itoaS q.value]
      else if q.kind = 8 then [itoaS q.value]
      else if q.kind = 9 then []
      else [itoaS q.arg]) := by unfold argsS; rw [if_neg h3]
    by_cases h1 : q.kind = 1
    · have e : nameS q cs = w_makeS := by unfold nameS; rw [if_neg h3, if_pos h1]; rfl
      exact .inr <| .inr <| .inr <| .inr <| .inr <| .inr <| .inr ⟨by omega, .inl e, by rw [ea, if_neg (by omega), if_neg (by omega), if_neg (by omega)]⟩
    by_cases h2 : q.kind = 2
    · have e : nameS q cs = w_freeS := by unfold nameS; rw [if_neg h3, if_neg h1, if_pos h2]; rfl
      exact .inr <| .inr <| .inr <| .inr <| .inr <| .inr <| .inr ⟨by omega, .inr <| .inl e, by rw [ea, if_neg (by omega), if_neg (by omega), if_neg (by omega)]⟩
    by_cases h4 : q.kind = 4
    · have e : nameS q cs = w_closeS := by unfold nameS; rw [if_neg h3, if_neg h1, if_neg h2, if_pos h4]; rfl
      exact .inr <| .inr <| .inr <| .inr <| .inr <| .inr <| .inr ⟨by omega, .inr <| .inr <| .inl e, by rw [ea, if_neg (by omega), if_neg (by omega), if_neg (by omega)]⟩
    by_cases h5 : q.kind = 5
    · have e : nameS q cs = w_lenS := by unfold nameS; rw [if_neg h3, if_neg h1, if_neg h2, if_neg h4, if_pos h5]; rfl
      exact .inr <| .inr <| .inr <| .inr <| .inr <| .inr <| .inr ⟨by omega, .inr <| .inr <| .inr <| .inl e, by rw [ea, if_neg (by omega), if_neg (by omega), if_neg (by omega)]⟩
    by_cases h6 : q.kind = 6
    · have e : nameS q cs = w_capS := by unfold nameS; rw [if_neg h3, if_neg h1, if_neg h2, if_neg h4, if_neg h5, if_pos h6]; rfl
      exact .inr <| .inr <| .inr <| .inr <| .inr <| .inr <| .inr ⟨by omega, .inr <| .inr <| .inr <| .inr e, by rw [ea, if_neg (by omega), if_neg (by omega), if_neg (by omega)]⟩
    by_cases h7 : q.kind = 7
    · have e : nameS q cs = w_cancelS := by unfold nameS; rw [if_neg h3, if_neg h1, if_neg h2, if_neg h4, if_neg h5, if_neg h6, if_pos h7]; rfl
      exact .inr <| .inr <| .inr <| .inr <| .inl ⟨h7, e, by rw [ea, if_pos h7]⟩
    by_cases h8 : q.kind = 8
    · have e : nameS q cs = w_putS := by unfold nameS; rw [if_neg h3, if_neg h1, if_neg h2, if_neg h4, if_neg h5, if_neg h6, if_neg h7, if_pos h8]; rfl
      exact .inr <| .inr <| .inr <| .inr <| .inr <| .inl ⟨h8, e, by rw [ea, if_neg h7, if_pos h8]⟩
    by_cases h9 : q.kind = 9
    · have e : nameS q cs = w_takeS := by unfold nameS; rw [if_neg h3, if_neg h1, if_neg h2, if_neg h4, if_neg h5, if_neg h6, if_neg h7, if_neg h8, if_pos h9]; rfl
      exact .inr <| .inr <| .inr <| .inr <| .inr <| .inr <| .inl ⟨h9, e, by rw [ea, if_neg h7, if_neg h8, if_pos h9]⟩
    exact .inl (by unfold nameS; rw [if_neg h3, if_neg h1, if_neg h2, if_neg h4, if_neg h5, if_neg h6, if_neg h7, if_neg h8, if_neg h9])

/-- A call's values are 64 bits. -/
def CallIn (q : Reqr) (cs : List Cse) : Prop := In64 q.arg ∧ In64 q.value ∧ ∀ x ∈ cs, In64 x.handle ∧ In64 x.value
theorem CallIn.one {q : Reqr} {cs : List Cse} (h : CallIn q cs) : In64 (cs.getD 0 Cse.none).handle ∧ In64 (cs.getD 0 Cse.none).value := by
  cases cs with
  | nil => exact ⟨⟨by decide, by decide⟩, ⟨by decide, by decide⟩⟩
  | cons x r => exact h.2.2 x (List.mem_cons_self ..)

theorem args_ok {q : Reqr} {cs : List Cse} (h : CallIn q cs) : ∀ x ∈ argsS q cs, x.size ≤ 48 ∧ (32 : UInt8) ∉ x.data.toList := by
  have hi : ∀ n, In64 n → (itoaS n).size ≤ 48 ∧ (32 : UInt8) ∉ (itoaS n).data.toList := fun n hn => ⟨by have := itoaS_size hn; omega, itoaS_no 32 (by decide) (.inl (by decide)) n⟩
  have h1 := hi _ h.1
  have h2 := hi _ h.2.1
  have h3 := hi _ h.one.1
  have h4 := hi _ h.one.2
  have hk : ∀ x ∈ (if q.dflt = true then [w_defS] else []) ++ cs.map kaseS, x.size ≤ 48 ∧ (32 : UInt8) ∉ x.data.toList := by
    intro x hx
    rcases List.mem_append.1 hx with hx | hx
    · split at hx
      · rw [List.mem_singleton] at hx; subst hx; exact ⟨by decide, by decide⟩
      · cases hx
    · obtain ⟨y, hy, rfl⟩ := List.mem_map.1 hx
      have := h.2.2 y hy
      exact ⟨kaseS_size this.1 this.2, kaseS_no y⟩
  intro x hx
  unfold argsS at hx
  split at hx
  · split at hx
    · exact hk x hx
    · split at hx
      · simp only [List.mem_cons, List.not_mem_nil, or_false] at hx; rcases hx with rfl | rfl; exact h3; exact h4
      · simp only [List.mem_cons, List.not_mem_nil, or_false] at hx; subst hx; exact h3
  · split at hx
    · simp only [List.mem_cons, List.not_mem_nil, or_false] at hx; rcases hx with rfl | rfl; exact h1; exact h2
    · split at hx
      · simp only [List.mem_cons, List.not_mem_nil, or_false] at hx; subst hx; exact h2
      · split at hx
        · cases hx
        · simp only [List.mem_cons, List.not_mem_nil, or_false] at hx; subst hx; exact h1

theorem args_len (q : Reqr) (cs : List Cse) : (argsS q cs).length ≤ cs.length + 2 := by
  unfold argsS
  split
  · split
    · rw [List.length_append, List.length_map]
      have : (if q.dflt = true then [w_defS] else []).length ≤ 1 := by split <;> decide
      omega
    · split <;> simp
  · split
    · simp
    · split
      · simp
      · split <;> simp

theorem name_ok (q : Reqr) (cs : List Cse) : (nameS q cs).size ≤ 8 ∧ (32 : UInt8) ∉ (nameS q cs).data.toList := by
  rcases name_ways q cs with h | ⟨h, _⟩ | ⟨_, _, _, h | h, _⟩ | ⟨_, _, _, h | h, _⟩ | ⟨_, h, _⟩ | ⟨_, h, _⟩ | ⟨_, h, _⟩ | ⟨_, h | h | h | h | h, _⟩ <;>
  · rw [h]; exact ⟨by decide, by decide⟩

theorem lens_le : ∀ (r : List ByteArray), (∀ x ∈ r, x.size ≤ 48) → Lib.lens (r.map (·.data.toList)) ≤ 48 * r.length
  | [], _ => by simp [Lib.lens]
  | x :: r, h => by
    have h1 := lens_le r (fun y hy => h y (List.mem_cons_of_mem _ hy))
    have h2 := h x (List.mem_cons_self ..)
    have h3 : x.data.toList.length = x.size := rfl
    simp only [Lib.lens, List.map_cons, List.sum_cons, List.length_cons] at h1 ⊢
    omega

theorem say_size {q : Reqr} {cs : List Cse} (h : CallIn q cs) : (sayS q cs).size ≤ 8 + 49 * (cs.length + 2) := by
  have h1 := (name_ok q cs).1
  have h2 := lens_le (argsS q cs) (fun x hx => (args_ok h x hx).1)
  have h3 := args_len q cs
  have h4 : (sayS q cs).size = (nameS q cs).size + (Lib.joinTail [32] ((argsS q cs).map (·.data.toList))).length := by
    unfold sayS
    show ((_ ++ _ : List UInt8).toArray).size = _
    rw [List.size_toArray, List.length_append]
    rfl
  rw [h4, Lib.joinTail_length, List.length_map]
  simp only [List.length_cons, List.length_nil]
  omega

theorem say_words {q : Reqr} {cs : List Cse} (h : CallIn q cs) : wordsC 32 (sayS q cs) = nameS q cs :: argsS q cs := by
  unfold sayS
  rw [wordsC_join 32 (nameS q cs).data.toList ((argsS q cs).map (·.data.toList))]
  · rw [List.map_cons, List.map_map]
    have e1 : (⟨(nameS q cs).data.toList.toArray⟩ : ByteArray) = nameS q cs := by simp
    rw [e1]
    congr 1
    have : ((fun y : List UInt8 => (⟨y.toArray⟩ : ByteArray)) ∘ fun x : ByteArray => x.data.toList) = id := by funext x; simp
    rw [this, List.map_id]
  · intro y hy
    rcases List.mem_cons.1 hy with rfl | hy
    · exact (name_ok q cs).2
    · obtain ⟨x, hx, rfl⟩ := List.mem_map.1 hy
      exact (args_ok h x hx).2

theorem callS_eq {q : Reqr} {cs : List Cse} (h : CallIn q cs) : callS q cs = if nameS q cs = ⟨#[]⟩ then ⟨#[]⟩ else match callQ (nameS q cs :: argsS q cs) with
  | none => ⟨#[]⟩
  | some r => if sameQ q cs r = true then sayS q cs else ⟨#[]⟩ := by
  unfold callS
  rw [say_words h]
  by_cases h0 : nameS q cs = ⟨#[]⟩
  · rw [if_pos h0, if_pos h0]
  · rw [if_neg h0, if_neg h0]
    cases callQ (nameS q cs :: argsS q cs) <;> rfl

theorem callS_size {q : Reqr} {cs : List Cse} (h : CallIn q cs) : (callS q cs).size ≤ 8 + 49 * (cs.length + 2) := by
  have h1 := say_size h
  have h0 : (⟨#[]⟩ : ByteArray).size = 0 := rfl
  unfold callS
  split
  · omega
  · split
    · omega
    · split <;> omega

end Go.Proofs.YtalkllfgedacoaaGreatDoor

namespace Go.Proofs.YtalkllfgedacoaaGreatDoor
open Go.RowKit Go.Sort

def sayL (nm : ByteArray) (l : List ByteArray) : ByteArray := ⟨(nm.data.toList ++ Lib.joinTail [32] (l.map (·.data.toList))).toArray⟩
theorem sayS_eq (q : Reqr) (cs : List Cse) : sayS q cs = sayL (nameS q cs) (argsS q cs) := rfl
theorem sayL_nil (nm : ByteArray) : sayL nm [] = nm := by
  unfold sayL
  simp [Lib.joinTail]
theorem joinTail_app (a b : List (List UInt8)) : Lib.joinTail [32] (a ++ b) = Lib.joinTail [32] a ++ Lib.joinTail [32] b := by
  induction a with
  | nil => simp [Lib.joinTail]
  | cons x r ih => simp [Lib.joinTail] at ih ⊢
theorem bytes_eq2 {a b : ByteArray} (h : a.data.toList = b.data.toList) : a = b := by
  cases a; cases b
  simp only at h
  congr 1
  exact Array.toList_inj.1 h
theorem sayL_snoc (nm : ByteArray) (l : List ByteArray) (x : ByteArray) : sayL nm (l ++ [x]) = sayL nm l ++ ⟨#[32]⟩ ++ x := by
  apply bytes_eq2
  unfold sayL
  rw [List.map_append, joinTail_app, bytes_app, bytes_app]
  simp [Lib.joinTail]
theorem sayL_size {nm : ByteArray} {l : List ByteArray} (hn : nm.size ≤ 8) (hl : ∀ x ∈ l, x.size ≤ 48) : (sayL nm l).size ≤ 8 + 49 * l.length := by
  have h2 := lens_le l hl
  have h4 : (sayL nm l).size = nm.size + (Lib.joinTail [32] (l.map (·.data.toList))).length := by
    unfold sayL
    show ((_ ++ _ : List UInt8).toArray).size = _
    rw [List.size_toArray, List.length_append]
    rfl
  rw [h4, Lib.joinTail_length, List.length_map]
  simp only [List.length_cons, List.length_nil]
  omega
theorem kase_send (s : ByteArray) {k : Cse} (h : k.dir = 1) : s ++ ⟨#[32, 115, 101, 110, 100, 58]⟩ ++ itoaS k.handle ++ ⟨#[58]⟩ ++ itoaS k.value = s ++ ⟨#[32]⟩ ++ kaseS k := by
  apply bytes_eq2
  unfold kaseS
  rw [if_pos h]
  simp only [bytes_app]
  simp [w_sendS]
theorem kase_recv (s : ByteArray) {k : Cse} (h : k.dir ≠ 1) : s ++ ⟨#[32, 114, 101, 99, 118, 58]⟩ ++ itoaS k.handle = s ++ ⟨#[32]⟩ ++ kaseS k := by
  apply bytes_eq2
  unfold kaseS
  rw [if_neg h]
  simp only [bytes_app]
  simp [w_recvS]

end Go.Proofs.YtalkllfgedacoaaGreatDoor

namespace Go.Proofs.YtalkllfgedacoaaGreatDoor
open Go.RowKit Go.Sort

theorem rd_str {w : World} {A : Option Addr} {l : List ByteArray} (h : Rd w A (rows l)) {k : Nat} (hk : k < l.length) : ∃ b o, A = some ⟨b, o, none⟩ ∧ b < w.heap.size ∧ w.cell? ⟨b, o + k, none⟩ = some (.string (l.getD k ⟨#[]⟩)) := by
  obtain ⟨b, o, hA, hb, hc⟩ := h.at_ (by rw [rows_length]; exact Nat.mul_pos (by omega) (by decide))
  refine ⟨b, o, hA, hb, ?_⟩
  have h1 := rec_cell hc hk rfl 0 (.string (l.getD k ⟨#[]⟩)) rfl
  have e : o + k * 1 + 0 = o + k := by omega
  rw [← e]; exact h1

def codesT : ByteArray := ⟨#[111, 107, 32, 97, 114, 103, 32, 110, 105, 108, 32, 102, 111, 114, 109, 32, 108, 111, 110, 103, 32, 97, 100, 100, 114, 32, 110, 111, 109, 101, 109, 32, 116, 97, 103, 32, 104, 97, 110, 100, 108, 101, 32, 99, 108, 111, 115, 101, 100, 32, 98, 108, 111, 99, 107, 32, 99, 97, 110, 99, 101, 108, 32, 108, 97, 116, 101, 32, 98, 117, 115, 121, 32, 112, 97, 114, 107, 32, 115, 99, 114, 105, 112, 116, 32, 110, 111, 110, 101, 32, 108, 105, 110, 101]⟩
def codesL : List ByteArray := [⟨#[111, 107]⟩, ⟨#[97, 114, 103]⟩, ⟨#[110, 105, 108]⟩, ⟨#[102, 111, 114, 109]⟩, ⟨#[108, 111, 110, 103]⟩, ⟨#[97, 100, 100, 114]⟩, ⟨#[110, 111, 109, 101, 109]⟩, ⟨#[116, 97, 103]⟩, ⟨#[104, 97, 110, 100, 108, 101]⟩, ⟨#[99, 108, 111, 115, 101, 100]⟩, ⟨#[98, 108, 111, 99, 107]⟩, ⟨#[99, 97, 110, 99, 101, 108]⟩, ⟨#[108, 97, 116, 101]⟩, ⟨#[98, 117, 115, 121]⟩, ⟨#[112, 97, 114, 107]⟩, ⟨#[115, 99, 114, 105, 112, 116]⟩, ⟨#[110, 111, 110, 101]⟩, ⟨#[108, 105, 110, 101]⟩]
theorem codes_len : codesL.length = 18 := by decide +kernel
theorem codes_eq : splitB codesT 32 = codesL := by decide +kernel
theorem codes_all : ∀ k, (codesL.getD k ⟨#[]⟩).size ≤ 10 := by
  intro k
  by_cases h : k < 18
  · have : ∀ k : Fin 18, (codesL.getD (k : Nat) ⟨#[]⟩).size ≤ 10 := by decide +kernel
    exact this ⟨k, h⟩
  · rw [List.getD, List.getElem?_eq_none (by rw [codes_len]; omega)]; decide
theorem codes_split (w : World) : Calls Tryz.prog 49 #[.string ⟨#[111, 107, 32, 97, 114, 103, 32, 110, 105, 108, 32, 102, 111, 114, 109, 32, 108, 111, 110, 103, 32, 97, 100, 100, 114, 32, 110, 111, 109, 101, 109, 32, 116, 97, 103, 32, 104, 97, 110, 100, 108, 101, 32, 99, 108, 111, 115, 101, 100, 32, 98, 108, 111, 99, 107, 32, 99, 97, 110, 99, 101, 108, 32, 108, 97, 116, 101, 32, 98, 117, 115, 121, 32, 112, 97, 114, 107, 32, 115, 99, 114, 105, 112, 116, 32, 110, 111, 110, 101, 32, 108, 105, 110, 101]⟩, .int .u8 32] w fun e w' => ∃ A cp, e = .returned (.slice A 18 cp) ∧ Rd w' A (rows codesL) ∧ Below w.heap.size w w' := by
  refine (Split_any codesT 32 w (by decide +kernel)).mono fun e w' => ?_
  rw [codes_eq, codes_len]
  rintro ⟨A, cp, he, ho, hb⟩
  exact ⟨A, cp, he, own_rd ho, hb⟩

def stepsT : ByteArray := ⟨#[105, 100, 108, 101, 32, 103, 101, 116, 101, 112, 111, 99, 104, 32, 115, 101, 116, 101, 112, 111, 99, 104, 32, 103, 101, 116, 114, 111, 111, 116, 32, 115, 101, 116, 103, 117, 97, 114, 100, 32, 97, 115, 107, 114, 111, 111, 116, 32, 103, 101, 116, 116, 97, 103, 32, 103, 101, 116, 114, 101, 99, 111, 114, 100, 32, 103, 101, 116, 115, 101, 113, 32, 103, 101, 116, 97, 114, 103, 115, 32, 97, 115, 107, 115, 101, 113, 32, 103, 101, 116, 109, 97, 105, 108, 32, 115, 119, 97, 112, 109, 97, 105, 108, 32, 115, 101, 116, 116, 97, 103, 32, 115, 101, 116, 114, 101, 99, 111, 114, 100, 32, 115, 119, 97, 112, 114, 111, 111, 116, 32, 97, 100, 100, 112, 104, 97, 115, 101, 32, 115, 101, 116, 97, 114, 103, 115, 32, 115, 101, 116, 115, 101, 113, 32, 97, 115, 107, 109, 97, 105, 108, 32, 100, 114, 111, 112, 103, 117, 97, 114, 100, 32, 103, 101, 116, 115, 116, 97, 109, 112, 32, 103, 101, 116, 111, 119, 110, 32, 115, 119, 97, 112, 111, 119, 110, 32, 103, 101, 116, 103, 108, 111, 98, 97, 108, 32, 103, 101, 116, 101, 112, 111, 99, 104, 115, 32, 115, 119, 97, 112, 103, 108, 111, 98, 97, 108, 32, 103, 101, 116, 103, 117, 97, 114, 100, 115, 32, 108, 101, 97, 118, 101, 101, 112, 111, 99, 104, 32, 119, 97, 105, 116, 109, 97, 105, 108, 32, 119, 97, 105, 116, 103, 108, 111, 98, 97, 108, 32, 119, 97, 105, 116, 101, 112, 111, 99, 104, 32, 119, 97, 105, 116, 114, 111, 111, 116, 32, 119, 97, 105, 116, 103, 117, 97, 114, 100, 32, 119, 97, 105, 116, 97, 115, 107, 32, 119, 97, 105, 116, 116, 97, 103, 32, 119, 97, 105, 116, 114, 101, 99, 111, 114, 100, 32, 119, 97, 105, 116, 100, 114, 111, 112, 32, 119, 97, 105, 116, 108, 101, 97, 118, 101]⟩
def stepsL : List ByteArray := [⟨#[105, 100, 108, 101]⟩, ⟨#[103, 101, 116, 101, 112, 111, 99, 104]⟩, ⟨#[115, 101, 116, 101, 112, 111, 99, 104]⟩, ⟨#[103, 101, 116, 114, 111, 111, 116]⟩, ⟨#[115, 101, 116, 103, 117, 97, 114, 100]⟩, ⟨#[97, 115, 107, 114, 111, 111, 116]⟩, ⟨#[103, 101, 116, 116, 97, 103]⟩, ⟨#[103, 101, 116, 114, 101, 99, 111, 114, 100]⟩, ⟨#[103, 101, 116, 115, 101, 113]⟩, ⟨#[103, 101, 116, 97, 114, 103, 115]⟩, ⟨#[97, 115, 107, 115, 101, 113]⟩, ⟨#[103, 101, 116, 109, 97, 105, 108]⟩, ⟨#[115, 119, 97, 112, 109, 97, 105, 108]⟩, ⟨#[115, 101, 116, 116, 97, 103]⟩, ⟨#[115, 101, 116, 114, 101, 99, 111, 114, 100]⟩, ⟨#[115, 119, 97, 112, 114, 111, 111, 116]⟩, ⟨#[97, 100, 100, 112, 104, 97, 115, 101]⟩, ⟨#[115, 101, 116, 97, 114, 103, 115]⟩, ⟨#[115, 101, 116, 115, 101, 113]⟩, ⟨#[97, 115, 107, 109, 97, 105, 108]⟩, ⟨#[100, 114, 111, 112, 103, 117, 97, 114, 100]⟩, ⟨#[103, 101, 116, 115, 116, 97, 109, 112]⟩, ⟨#[103, 101, 116, 111, 119, 110]⟩, ⟨#[115, 119, 97, 112, 111, 119, 110]⟩, ⟨#[103, 101, 116, 103, 108, 111, 98, 97, 108]⟩, ⟨#[103, 101, 116, 101, 112, 111, 99, 104, 115]⟩, ⟨#[115, 119, 97, 112, 103, 108, 111, 98, 97, 108]⟩, ⟨#[103, 101, 116, 103, 117, 97, 114, 100, 115]⟩, ⟨#[108, 101, 97, 118, 101, 101, 112, 111, 99, 104]⟩, ⟨#[119, 97, 105, 116, 109, 97, 105, 108]⟩, ⟨#[119, 97, 105, 116, 103, 108, 111, 98, 97, 108]⟩, ⟨#[119, 97, 105, 116, 101, 112, 111, 99, 104]⟩, ⟨#[119, 97, 105, 116, 114, 111, 111, 116]⟩, ⟨#[119, 97, 105, 116, 103, 117, 97, 114, 100]⟩, ⟨#[119, 97, 105, 116, 97, 115, 107]⟩, ⟨#[119, 97, 105, 116, 116, 97, 103]⟩, ⟨#[119, 97, 105, 116, 114, 101, 99, 111, 114, 100]⟩, ⟨#[119, 97, 105, 116, 100, 114, 111, 112]⟩, ⟨#[119, 97, 105, 116, 108, 101, 97, 118, 101]⟩]
theorem steps_len : stepsL.length = 39 := by decide +kernel
theorem steps_eq : splitB stepsT 32 = stepsL := by decide +kernel
theorem steps_all : ∀ k, (stepsL.getD k ⟨#[]⟩).size ≤ 10 := by
  intro k
  by_cases h : k < 39
  · have : ∀ k : Fin 39, (stepsL.getD (k : Nat) ⟨#[]⟩).size ≤ 10 := by decide +kernel
    exact this ⟨k, h⟩
  · rw [List.getD, List.getElem?_eq_none (by rw [steps_len]; omega)]; decide
theorem steps_split (w : World) : Calls Tryz.prog 49 #[.string ⟨#[105, 100, 108, 101, 32, 103, 101, 116, 101, 112, 111, 99, 104, 32, 115, 101, 116, 101, 112, 111, 99, 104, 32, 103, 101, 116, 114, 111, 111, 116, 32, 115, 101, 116, 103, 117, 97, 114, 100, 32, 97, 115, 107, 114, 111, 111, 116, 32, 103, 101, 116, 116, 97, 103, 32, 103, 101, 116, 114, 101, 99, 111, 114, 100, 32, 103, 101, 116, 115, 101, 113, 32, 103, 101, 116, 97, 114, 103, 115, 32, 97, 115, 107, 115, 101, 113, 32, 103, 101, 116, 109, 97, 105, 108, 32, 115, 119, 97, 112, 109, 97, 105, 108, 32, 115, 101, 116, 116, 97, 103, 32, 115, 101, 116, 114, 101, 99, 111, 114, 100, 32, 115, 119, 97, 112, 114, 111, 111, 116, 32, 97, 100, 100, 112, 104, 97, 115, 101, 32, 115, 101, 116, 97, 114, 103, 115, 32, 115, 101, 116, 115, 101, 113, 32, 97, 115, 107, 109, 97, 105, 108, 32, 100, 114, 111, 112, 103, 117, 97, 114, 100, 32, 103, 101, 116, 115, 116, 97, 109, 112, 32, 103, 101, 116, 111, 119, 110, 32, 115, 119, 97, 112, 111, 119, 110, 32, 103, 101, 116, 103, 108, 111, 98, 97, 108, 32, 103, 101, 116, 101, 112, 111, 99, 104, 115, 32, 115, 119, 97, 112, 103, 108, 111, 98, 97, 108, 32, 103, 101, 116, 103, 117, 97, 114, 100, 115, 32, 108, 101, 97, 118, 101, 101, 112, 111, 99, 104, 32, 119, 97, 105, 116, 109, 97, 105, 108, 32, 119, 97, 105, 116, 103, 108, 111, 98, 97, 108, 32, 119, 97, 105, 116, 101, 112, 111, 99, 104, 32, 119, 97, 105, 116, 114, 111, 111, 116, 32, 119, 97, 105, 116, 103, 117, 97, 114, 100, 32, 119, 97, 105, 116, 97, 115, 107, 32, 119, 97, 105, 116, 116, 97, 103, 32, 119, 97, 105, 116, 114, 101, 99, 111, 114, 100, 32, 119, 97, 105, 116, 100, 114, 111, 112, 32, 119, 97, 105, 116, 108, 101, 97, 118, 101]⟩, .int .u8 32] w fun e w' => ∃ A cp, e = .returned (.slice A 39 cp) ∧ Rd w' A (rows stepsL) ∧ Below w.heap.size w w' := by
  refine (Split_any stepsT 32 w (by decide +kernel)).mono fun e w' => ?_
  rw [steps_eq, steps_len]
  rintro ⟨A, cp, he, ho, hb⟩
  exact ⟨A, cp, he, own_rd ho, hb⟩

def sortsT : ByteArray := ⟨#[110, 111, 116, 104, 105, 110, 103, 32, 114, 111, 111, 116, 32, 101, 112, 111, 99, 104, 32, 112, 104, 97, 115, 101, 32, 115, 101, 113, 32, 97, 114, 103, 115, 32, 103, 117, 97, 114, 100, 32, 105, 110, 32, 109, 97, 105, 108, 32, 116, 97, 103, 32, 119, 111, 114, 100]⟩
def sortsL : List ByteArray := [⟨#[110, 111, 116, 104, 105, 110, 103]⟩, ⟨#[114, 111, 111, 116]⟩, ⟨#[101, 112, 111, 99, 104]⟩, ⟨#[112, 104, 97, 115, 101]⟩, ⟨#[115, 101, 113]⟩, ⟨#[97, 114, 103, 115]⟩, ⟨#[103, 117, 97, 114, 100]⟩, ⟨#[105, 110]⟩, ⟨#[109, 97, 105, 108]⟩, ⟨#[116, 97, 103]⟩, ⟨#[119, 111, 114, 100]⟩]
theorem sorts_len : sortsL.length = 11 := by decide +kernel
theorem sorts_eq : splitB sortsT 32 = sortsL := by decide +kernel
theorem sorts_all : ∀ k, (sortsL.getD k ⟨#[]⟩).size ≤ 10 := by
  intro k
  by_cases h : k < 11
  · have : ∀ k : Fin 11, (sortsL.getD (k : Nat) ⟨#[]⟩).size ≤ 10 := by decide +kernel
    exact this ⟨k, h⟩
  · rw [List.getD, List.getElem?_eq_none (by rw [sorts_len]; omega)]; decide
theorem sorts_split (w : World) : Calls Tryz.prog 49 #[.string ⟨#[110, 111, 116, 104, 105, 110, 103, 32, 114, 111, 111, 116, 32, 101, 112, 111, 99, 104, 32, 112, 104, 97, 115, 101, 32, 115, 101, 113, 32, 97, 114, 103, 115, 32, 103, 117, 97, 114, 100, 32, 105, 110, 32, 109, 97, 105, 108, 32, 116, 97, 103, 32, 119, 111, 114, 100]⟩, .int .u8 32] w fun e w' => ∃ A cp, e = .returned (.slice A 11 cp) ∧ Rd w' A (rows sortsL) ∧ Below w.heap.size w w' := by
  refine (Split_any sortsT 32 w (by decide +kernel)).mono fun e w' => ?_
  rw [sorts_eq, sorts_len]
  rintro ⟨A, cp, he, ho, hb⟩
  exact ⟨A, cp, he, own_rd ho, hb⟩

def codeS (e : Int) : ByteArray := if 0 ≤ e ∧ e < 18 then codesL.getD e.toNat ⟨#[]⟩ else ⟨#[101, 114, 114, 111, 114]⟩
theorem codeS_size (e : Int) : (codeS e).size ≤ 10 := by
  unfold codeS
  split
  · exact codes_all _
  · decide
theorem codeS_in (k : Nat) (h : k < 18) : codeS (k : Int) = codesL.getD k ⟨#[]⟩ := by
  unfold codeS; rw [if_pos (by omega)]; rfl
theorem codeS_out (e : Int) (h : e < 0 ∨ 18 ≤ e) : codeS e = ⟨#[101, 114, 114, 111, 114]⟩ := by
  unfold codeS; rw [if_neg (by omega)]

set_option maxHeartbeats 4000000 in
set_option maxRecDepth 100000 in
theorem rcodeS_any (e : Int) (w : World) : Calls Tryz.prog 73 #[.int .i64 e] w fun er w' => er = .returned (.string (codeS e)) ∧ Below w.heap.size w w' := by
  have HSP := Lib.hid (codes_split w)
  by_cases h0 : e < 0 ∨ 18 ≤ e
  · have HV := Lib.hid (codeS_out e h0)
    generalize codeS e = R at *
    rcases h0 with h0 | h0
    all_goals
      go_enter Tryz.func73, Tryz.ntmps73
      go_wp2_with fail
      refine HSP.out.mono ?_
      rintro er w1 ⟨A, cp, rfl, hr, hb⟩
      go_wp2
      go_ret
      exact ⟨by rw [HV.out]; rfl, hb⟩
  · obtain ⟨k, rfl⟩ := Int.eq_ofNat_of_zero_le (show 0 ≤ e by omega)
    have hk : k < 18 := by omega
    have HV := Lib.hid (codeS_in k hk)
    generalize codeS (k : Int) = R at *
    have q0 : (0 : Int) ≤ (k : Int) := by omega
    have q1 : (k : Int) < 18 := by omega
    clear h0
    go_enter Tryz.func73, Tryz.ntmps73
    go_wp2_with fail
    refine HSP.out.mono ?_
    rintro er w1 ⟨A, cp, rfl, hr, hb⟩
    have hr1 := rd_str hr (k := k) (by rw [codes_len]; exact hk)
    obtain ⟨b, o, rfl, hbl, hc⟩ := hr1
    generalize codesL.getD k ⟨#[]⟩ = x at *
    clear hr
    go_wp2
    go_ret
    exact ⟨by rw [HV.out]; rfl, hb⟩

def stepS (e : Int) : ByteArray := if 0 ≤ e ∧ e < 39 then stepsL.getD e.toNat ⟨#[]⟩ else ⟨#[110, 111, 119, 104, 101, 114, 101]⟩
theorem stepS_size (e : Int) : (stepS e).size ≤ 10 := by
  unfold stepS
  split
  · exact steps_all _
  · decide
theorem stepS_in (k : Nat) (h : k < 39) : stepS (k : Int) = stepsL.getD k ⟨#[]⟩ := by
  unfold stepS; rw [if_pos (by omega)]; rfl
theorem stepS_out (e : Int) (h : e < 0 ∨ 39 ≤ e) : stepS e = ⟨#[110, 111, 119, 104, 101, 114, 101]⟩ := by
  unfold stepS; rw [if_neg (by omega)]

set_option maxHeartbeats 4000000 in
set_option maxRecDepth 100000 in
theorem rstepS_any (e : Int) (w : World) : Calls Tryz.prog 36 #[.int .i64 e] w fun er w' => er = .returned (.string (stepS e)) ∧ Below w.heap.size w w' := by
  have HSP := Lib.hid (steps_split w)
  by_cases h0 : e < 0 ∨ 39 ≤ e
  · have HV := Lib.hid (stepS_out e h0)
    generalize stepS e = R at *
    rcases h0 with h0 | h0
    all_goals
      go_enter Tryz.func36, Tryz.ntmps36
      go_wp2_with fail
      refine HSP.out.mono ?_
      rintro er w1 ⟨A, cp, rfl, hr, hb⟩
      go_wp2
      go_ret
      exact ⟨by rw [HV.out]; rfl, hb⟩
  · obtain ⟨k, rfl⟩ := Int.eq_ofNat_of_zero_le (show 0 ≤ e by omega)
    have hk : k < 39 := by omega
    have HV := Lib.hid (stepS_in k hk)
    generalize stepS (k : Int) = R at *
    have q0 : (0 : Int) ≤ (k : Int) := by omega
    have q1 : (k : Int) < 39 := by omega
    clear h0
    go_enter Tryz.func36, Tryz.ntmps36
    go_wp2_with fail
    refine HSP.out.mono ?_
    rintro er w1 ⟨A, cp, rfl, hr, hb⟩
    have hr1 := rd_str hr (k := k) (by rw [steps_len]; exact hk)
    obtain ⟨b, o, rfl, hbl, hc⟩ := hr1
    generalize stepsL.getD k ⟨#[]⟩ = x at *
    clear hr
    go_wp2
    go_ret
    exact ⟨by rw [HV.out]; rfl, hb⟩

end Go.Proofs.YtalkllfgedacoaaGreatDoor

namespace Go.Proofs.YtalkllfgedacoaaGreatDoor
open Go.RowKit Go.Sort

theorem tab_cell (w : World) (T : TypeId) (L : List ByteArray) (k : Nat) (hk : k < L.length) : (w.alloc (.cells (L.map Value.string).toArray T)).cell? ⟨w.heap.size, k, none⟩ = some (.string (L.getD k ⟨#[]⟩)) :=
  (Blk.new w T (L.map .string)).cell (i := k) (v := .string (L.getD k ⟨#[]⟩)) (by rw [List.getElem?_map, List.getD, List.getElem?_eq_getElem hk]; rfl)

set_option maxHeartbeats 4000000 in
set_option maxRecDepth 100000 in
theorem codeS_any (e : Int) (w : World) : Calls Tryz.prog 72 #[.int .i64 e] w fun er w' => er = .returned (.string (codeS e)) ∧ Below w.heap.size w w' := by
  have HC := Lib.hid (fun k hk => tab_cell w 169 codesL k hk)
  have HB := Lib.hid ((Below.refl w.heap.size w).alloc (Nat.le_refl _) (.cells (codesL.map Value.string).toArray 169))
  have hsz : w.heap.size < (w.alloc (.cells (codesL.map Value.string).toArray 169)).heap.size := by rw [World.size_alloc]; exact Nat.lt_succ_self _
  have HSZ := Lib.hid hsz
  clear hsz
  go_enter Tryz.func72, Tryz.ntmps72
  go_upto_region 1 with (fail)
  refine wp_region_lit ?_
  refine Great.wpList_readTo rfl (some 4) rfl (.agg (codesL.map Value.string).toArray) (by kernel_rfl) ?_
  refine Great.wpList_allocTo rfl (some 3) rfl (.pointer (some ⟨w.heap.size, 0, none⟩)) (.cells (List.replicate 18 (Value.string ⟨#[]⟩)).toArray 169) (by kernel_rfl) ?_
  refine wpList_store_row rfl 169 (.tmp 3) (.tmp 4) rfl w.heap.size (codesL.map Value.string).toArray rfl rfl 169 (List.replicate 18 (Value.string ⟨#[]⟩)).toArray (heap_alloc_last w _) (by kernel_rfl) (by kernel_rfl) (by kernel_rfl) ?_
  rw [World.setRow_alloc_new]
  generalize (w.alloc (.cells (codesL.map Value.string).toArray 169)) = W at *
  generalize (Value.agg (codesL.map Value.string).toArray) = g4 at *
  have hl := HSZ.out
  by_cases h0 : e < 0
  · have HV := Lib.hid (codeS_out e (.inl h0))
    go_wp2
    go_ret
    exact ⟨by rw [HV.out]; rfl, HB.out⟩
  · by_cases h1 : 18 ≤ e
    · have HV := Lib.hid (codeS_out e (.inr h1))
      go_wp2
      go_ret
      exact ⟨by rw [HV.out]; rfl, HB.out⟩
    · obtain ⟨k, rfl⟩ := Int.eq_ofNat_of_zero_le (show 0 ≤ e by omega)
      have hk : k < 18 := by omega
      have HV := Lib.hid (codeS_in k hk)
      have hx := HC.out k (by rw [codes_len]; exact hk)
      generalize codesL.getD k ⟨#[]⟩ = x at *
      have q0 : (0 : Int) ≤ (k : Int) := by omega
      have q1 : (k : Int) < 18 := by omega
      go_wp2
      go_ret
      exact ⟨by rw [HV.out]; rfl, HB.out⟩

end Go.Proofs.YtalkllfgedacoaaGreatDoor

namespace Go.Proofs.YtalkllfgedacoaaGreatDoor
open Go.RowKit Go.Sort Go.Lib

theorem vhex_piece (d : Nat) (h : d < 16) : (⟨#[48, 49, 50, 51, 52, 53, 54, 55, 56, 57, 97, 98, 99, 100, 101, 102]⟩ : ByteArray).extract d (d + 1) = ⟨#[hexd d]⟩ := by
  have : ∀ d : Fin 16, (⟨#[48, 49, 50, 51, 52, 53, 54, 55, 56, 57, 97, 98, 99, 100, 101, 102]⟩ : ByteArray).extract (d : Nat) ((d : Nat) + 1) = ⟨#[hexd d]⟩ := by decide +kernel
  exact this ⟨d, h⟩
def decd (d : Nat) : UInt8 := UInt8.ofNat (48 + d)
theorem vdec_piece (d : Nat) (h : d < 10) : (⟨#[48, 49, 50, 51, 52, 53, 54, 55, 56, 57]⟩ : ByteArray).extract d (d + 1) = ⟨#[decd d]⟩ := by
  have : ∀ d : Fin 10, (⟨#[48, 49, 50, 51, 52, 53, 54, 55, 56, 57]⟩ : ByteArray).extract (d : Nat) ((d : Nat) + 1) = ⟨#[decd d]⟩ := by decide +kernel
  exact this ⟨d, h⟩
theorem dec_last {u : Nat} (h : u < 10) : Lib.decDigits u = [decd u] := by rw [Lib.decDigits, dif_pos h]; rfl
theorem dec_step {u : Nat} (h : 10 ≤ u) : Lib.decDigits u = Lib.decDigits (u / 10) ++ [decd (u % 10)] := by rw [Lib.decDigits, dif_neg (by omega)]; rfl
theorem hexS_size (u : Nat) (h : u < 18446744073709551616) : (hexS u).size ≤ 16 := by
  have h1 := hex_length 15 u (by simpa using h)
  exact h1
theorem udecS_size (u : Nat) (h : u < 18446744073709551616) : (udecS u).size ≤ 20 := by
  have h1 := Lib.nDigits_le20 u h
  rw [← Lib.decDigits_length] at h1
  exact h1

end Go.Proofs.YtalkllfgedacoaaGreatDoor

namespace Go.Proofs.YtalkllfgedacoaaGreatDoor
open Go.RowKit Go.Sort

theorem byte1 (W : World) (d : Int) : (convert 114 9 (.slice (some ⟨W.heap.size, 0, none⟩) 1 1)).run Tryz.prog (W.alloc (.cells #[.int .u8 d] 5)) = .ok (.string ⟨#[UInt8.ofNat d.toNat]⟩) (W.alloc (.cells #[.int .u8 d] 5)) := by
  rw [run_convert_bytes_string _ _ _ _ _ _ _ Tryz.underlying114 Tryz.underlying5 Tryz.underlying9]
  exact run_bytesToString _ _ 1 1 [d] (by simp [loadCells, go_sem, Addr.add])

theorem decDigits_le20 (u : Nat) (h : u < 18446744073709551616) : (Lib.decDigits u).length ≤ 20 := by
  rw [Lib.decDigits_length]; exact Lib.nDigits_le20 u h

/-- What is left of a number's digits. -/
def digsOf (u : Nat) : List UInt8 := if u = 0 then [] else Lib.decDigits u
theorem digsOf_pos {u : Nat} (h : 0 < u) : digsOf u = Lib.decDigits u := by unfold digsOf; rw [if_neg (by omega)]
theorem digs_step {u : Nat} (h : 0 < u) (b : ByteArray) : digsOf u ++ b.data.toList = digsOf (u / 10) ++ ((⟨#[UInt8.ofNat (48 + u % 10)]⟩ : ByteArray) ++ b).data.toList := by
  have e : ((⟨#[UInt8.ofNat (48 + u % 10)]⟩ : ByteArray) ++ b).data.toList = UInt8.ofNat (48 + u % 10) :: b.data.toList := by simp
  rw [e, digsOf_pos h, Lib.decDigits]
  by_cases h10 : u < 10
  · rw [dif_pos h10]
    have e1 : u / 10 = 0 := by omega
    have e2 : u % 10 = u := by omega
    rw [e1, e2]; rfl
  · rw [dif_neg h10, digsOf_pos (by omega)]; simp

theorem digs_lit (l : List UInt8) (b : ByteArray) {c d : UInt8} (h : c = d) : l ++ ((⟨#[c]⟩ : ByteArray) ++ b).data.toList = l ++ ((⟨#[d]⟩ : ByteArray) ++ b).data.toList := by rw [h]
theorem ofNat48 (k : Nat) : UInt8.ofNat (48 + k) = 48 + UInt8.ofNat k := by rw [UInt8.ofNat_add]; rfl

set_option maxHeartbeats 4000000 in
set_option maxRecDepth 100000 in
theorem rItoa_pos (N : Nat) (hN : 0 < N) (hm : N ≤ 9223372036854775808) (hm2 : N ≤ 9223372036854775807) (w : World) :
    Calls Tryz.prog 68 #[.int .i64 (N : Int)] w fun e w' => e = .returned (.string ⟨(Lib.decDigits N).toArray⟩) ∧ Below w.heap.size w w' := by
  have cv := byte1
  have b0 : ((N : Int) == 0) = false := by simp; omega
  have n0 : ¬ (N : Int) < 0 := by omega
  have HN := Lib.hid hN
  have HL := Lib.hid (decDigits_le20 N (by omega))
  have hnl : ((⟨#[45]⟩ : ByteArray)).size = 1 := rfl
  have HNL := Lib.hid hnl
  clear hN hnl
  go_enter Tryz.func68, Tryz.ntmps68
  go_wp2
  go_loopg [3, 4] (N + 1) (fun g s x wr => ∃ (u : Nat) (b : ByteArray), g = u + 1 ∧ u ≤ N ∧ x = .int .i64 (u : Int) ∧ s = .string b ∧ Lib.decDigits N = digsOf u ++ b.data.toList ∧ Below w.heap.size w wr)
  case atStart => exact ⟨N, ⟨#[]⟩, rfl, Nat.le_refl _, rfl, rfl, by rw [digsOf_pos HN.out]; exact (List.append_nil _).symm, Below.refl _ _⟩
  case round =>
    obtain ⟨u, b, hg, hu, rfl, rfl, hd, hb⟩ := hrel
    have HG := Lib.hid hg
    have HD := Lib.hid hd
    have HB := Lib.hid hb
    have hbs : b.size ≤ 20 := by
      have := HL.out; rw [hd, List.length_append] at this
      have e : b.size = b.data.toList.length := rfl
      omega
    clear hg hd hb
    by_cases h0 : u = 0
    · subst h0
      have HE := Lib.hid (show Lib.decDigits N = b.data.toList by rw [HD.out]; rfl)
      
      clear hm
      go_wp2
      go_ret
      exact ⟨by rw [HE.out]; rfl, HB.out⟩
    · have HSTEP := Lib.hid (digs_step (u := u) (by omega) b)
      have hu0 : 0 < u := by omega
      have q1 : (0 : Int) ≤ (u : Int) % 10 := by omega
      have q2 : (u : Int) % 10 < 10 := by omega
      have q3 : ¬ (u : Int) % 10 < 0 := by omega
      have b1 : ((u : Int) != 0) = true := by simp; omega
      have wr8 : IntKind.u8.wrap (48 + (u : Int) % 10) = 48 + (u : Int) % 10 := IntWalk.u8_in _ (by omega)
      have d1 : ¬ 9223372036854775807 < 1 + b.size := by omega
      clear h0
      go_wp2
      go_roundg (u / 10 + 1)
      case measure => rw [HG.out]; omega
      case rel => exact ⟨u / 10, _, rfl, by omega, by go_num, rfl, by rw [HD.out, HSTEP.out]; exact digs_lit _ _ (by first | rfl | exact ofNat48 _ | (rw [show u % 10 = 0 by omega]; rfl)), HB.out.alloc HB.out.size _⟩


set_option maxHeartbeats 4000000 in
set_option maxRecDepth 100000 in
theorem rItoa_neg (N : Nat) (hN : 0 < N) (hm : N ≤ 9223372036854775808)  (w : World) :
    Calls Tryz.prog 68 #[.int .i64 (-(N : Int))] w fun e w' => e = .returned (.string (⟨#[45]⟩ ++ ⟨(Lib.decDigits N).toArray⟩)) ∧ Below w.heap.size w w' := by
  have cv := byte1
  have b0 : ((-(N : Int)) == 0) = false := by simp; omega
  have n0 : (-(N : Int)) < 0 := by omega
  have HN := Lib.hid hN
  have HL := Lib.hid (decDigits_le20 N (by omega))
  have hnl : ((⟨#[45]⟩ : ByteArray)).size = 1 := rfl
  have HNL := Lib.hid hnl
  clear hN hnl
  go_enter Tryz.func68, Tryz.ntmps68
  go_wp2
  go_loopg [3, 4] (N + 1) (fun g s x wr => ∃ (u : Nat) (b : ByteArray), g = u + 1 ∧ u ≤ N ∧ x = .int .i64 (-(u : Int)) ∧ s = .string b ∧ Lib.decDigits N = digsOf u ++ b.data.toList ∧ Below w.heap.size w wr)
  case atStart => exact ⟨N, ⟨#[]⟩, rfl, Nat.le_refl _, rfl, rfl, by rw [digsOf_pos HN.out]; exact (List.append_nil _).symm, Below.refl _ _⟩
  case round =>
    obtain ⟨u, b, hg, hu, rfl, rfl, hd, hb⟩ := hrel
    have HG := Lib.hid hg
    have HD := Lib.hid hd
    have HB := Lib.hid hb
    have hbs : b.size ≤ 20 := by
      have := HL.out; rw [hd, List.length_append] at this
      have e : b.size = b.data.toList.length := rfl
      omega
    clear hg hd hb
    by_cases h0 : u = 0
    · subst h0
      have HE := Lib.hid (show Lib.decDigits N = b.data.toList by rw [HD.out]; rfl)
      have d1 : ¬ 9223372036854775807 < 1 + b.size := by omega
      clear hm
      go_wp2
      go_ret
      exact ⟨by rw [HE.out]; rfl, HB.out⟩
    · have HSTEP := Lib.hid (digs_step (u := u) (by omega) b)
      have hu0 : 0 < u := by omega
      have b1 : ((-(u : Int)) != 0) = true := by simp; omega
      have m1 : (-(u : Int)).tmod 10 = -((u : Int) % 10) := by rw [Int.neg_tmod, Int.tmod_eq_emod_of_nonneg (by omega)]
      have m2 : (-(u : Int)).tdiv 10 = -((u : Int) / 10) := by rw [Int.neg_tdiv, Int.tdiv_eq_ediv_of_nonneg (by omega)]
      have q1 : (0 : Int) ≤ (u : Int) % 10 := by omega
      have q2 : (u : Int) % 10 < 10 := by omega
      have wr8 : IntKind.u8.wrap (48 + (u : Int) % 10) = 48 + (u : Int) % 10 := IntWalk.u8_in _ (by omega)
      have d1 : ¬ 9223372036854775807 < 1 + b.size := by omega
      clear h0
      have hz : (u : Int) % 10 = 0 ∨ 0 < (u : Int) % 10 := by omega
      rcases hz with hz | hz
      · have e0 : ¬ (-((u : Int) % 10) < 0) := by omega
        go_wp2
        go_roundg (u / 10 + 1)
        case measure => rw [HG.out]; omega
        case rel => exact ⟨u / 10, _, rfl, by omega, by go_num, rfl, by rw [HD.out, HSTEP.out]; exact digs_lit _ _ (by first | rfl | exact ofNat48 _ | (rw [show u % 10 = 0 by omega]; rfl)), HB.out.alloc HB.out.size _⟩
      · have e0 : (-((u : Int) % 10) < 0) := by omega
        go_wp2
        go_roundg (u / 10 + 1)
        case measure => rw [HG.out]; omega
        case rel => exact ⟨u / 10, _, rfl, by omega, by go_num, rfl, by rw [HD.out, HSTEP.out]; exact digs_lit _ _ (by first | rfl | exact ofNat48 _ | (rw [show u % 10 = 0 by omega]; rfl)), HB.out.alloc HB.out.size _⟩

set_option maxHeartbeats 1000000 in
theorem rItoa_zero (w : World) : Calls Tryz.prog 68 #[.int .i64 0] w fun e w' => e = .returned (.string ⟨#[48]⟩) ∧ Below w.heap.size w w' := by
  go_enter Tryz.func68, Tryz.ntmps68
  go_wp2
  go_ret
  exact ⟨rfl, Below.refl _ _⟩

theorem rItoa_any (n : Int) (hn : In64 n) (w : World) :
    Calls Tryz.prog 68 #[.int .i64 n] w fun e w' => e = .returned (.string (itoaS n)) ∧ Below w.heap.size w w' := by
  obtain ⟨h1, h2⟩ := hn
  rcases Int.lt_trichotomy n 0 with h | rfl | h
  · obtain ⟨u, rfl⟩ : ∃ u : Nat, n = -(u : Int) := ⟨n.natAbs, by omega⟩
    have e : itoaS (-(u : Int)) = ⟨#[45]⟩ ++ ⟨(Lib.decDigits u).toArray⟩ := by
      unfold itoaS; rw [Lib.itoa_neg u (by omega)]
      apply ByteArray.ext; simp
    rw [e]
    exact rItoa_neg u (by omega) (by omega) w
  · have e : itoaS 0 = ⟨#[48]⟩ := by decide +kernel
    rw [e]
    exact rItoa_zero w
  · obtain ⟨u, rfl⟩ : ∃ u : Nat, n = (u : Int) := ⟨n.toNat, by omega⟩
    have e : itoaS (u : Int) = ⟨(Lib.decDigits u).toArray⟩ := by unfold itoaS; rw [Lib.itoa_nonneg u]
    rw [e]
    exact rItoa_pos u (by omega) (by omega) (by omega) w

end Go.Proofs.YtalkllfgedacoaaGreatDoor

namespace Go.Proofs.YtalkllfgedacoaaGreatDoor
open Go.RowKit Go.Sort

theorem results_cell1 {fn : Func} {p : Tmp} {ty : TypeId} (h : fn.results = #[.cell p ty]) (tmps : Array Value) (P : Program) (w : World) :
    (results fn tmps).run P w = ((asAddr (tmps.getD p undef)).run P w).andThen fun a w₁ => (loadVar ty a).run P w₁ := by
  simp only [results, h]
  simp

/-- A struct that is handed back out of its cell. -/
theorem ret_cell {fn : Func} {p : Tmp} {ty : TypeId} (h : fn.results = #[.cell p ty]) {tmps : Array Value} {w : World} {g : Nat} {v : Value} (ht : tmps.getD p undef = .pointer (some ⟨g, 0, none⟩)) (hl : (loadVar ty ⟨g, 0, none⟩).run Tryz.prog w = .ok v w) :
    (results fn tmps).run Tryz.prog w = .ok v w := by
  rw [results_cell1 h, ht]
  have ha : (asAddr (.pointer (some ⟨g, 0, none⟩))).run Tryz.prog w = .ok ⟨g, 0, none⟩ w := by simp [asAddr, go_sem]
  rw [ha, Result.andThen_ok]
  exact hl
end Go.Proofs.YtalkllfgedacoaaGreatDoor
