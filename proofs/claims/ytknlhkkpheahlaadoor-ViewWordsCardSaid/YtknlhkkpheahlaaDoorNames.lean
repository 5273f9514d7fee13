/- The names of errors, of steps, of sorts of words: tables, the program's and the document's (there a text, parted at its blanks). -/
import Derived.Test.YtknlhkkpheahlaaDoorSplit
namespace Go.Proofs.YtknlhkkpheahlaaDoor
open Go.RowKit Go.Sort

theorem rd_str {w : World} {A : Option Addr} {l : List ByteArray} (h : Rd w A (rows l)) {k : Nat} (hk : k < l.length) : ∃ b o, A = some ⟨b, o, none⟩ ∧ b < w.heap.size ∧ w.cell? ⟨b, o + k, none⟩ = some (.string (l.getD k ⟨#[]⟩)) := by
  obtain ⟨b, o, hA, hb, hc⟩ := h.at_ (by rw [rows_length]; exact Nat.mul_pos (by omega) (by decide))
  refine ⟨b, o, hA, hb, ?_⟩
  have h1 := rec_cell hc hk rfl 0 (.string (l.getD k ⟨#[]⟩)) rfl
  have e : o + k * 1 + 0 = o + k := by omega
  rw [← e]; exact h1

def codesT : ByteArray := ⟨#[111, 107, 32, 97, 114, 103, 32, 110, 105, 108, 32, 102, 111, 114, 109, 32, 108, 111, 110, 103, 32, 97, 100, 100, 114, 32, 110, 111, 109, 101, 109, 32, 116, 97, 103, 32, 104, 97, 110, 100, 108, 101, 32, 99, 108, 111, 115, 101, 100, 32, 98, 108, 111, 99, 107, 32, 99, 97, 110, 99, 101, 108, 32, 108, 97, 116, 101, 32, 98, 117, 115, 121, 32, 112, 97, 114, 107, 32, 115, 99, 114, 105, 112, 116, 32, 110, 111, 110, 101, 32, 108, 105, 110, 101]⟩
def codesL : List ByteArray := [⟨#[111, 107]⟩, ⟨#[97, 114, 103]⟩, ⟨#[110, 105, 108]⟩, ⟨#[102, 111, 114, 109]⟩, ⟨#[108, 111, 110, 103]⟩, ⟨#[97, 100, 100, 114]⟩, ⟨#[110, 111, 109, 101, 109]⟩, ⟨#[116, 97, 103]⟩, ⟨#[104, 97, 110, 100, 108, 101]⟩, ⟨#[99, 108, 111, 115, 101, 100]⟩, ⟨#[98, 108, 111, 99, 107]⟩, ⟨#[99, 97, 110, 99, 101, 108]⟩, ⟨#[108, 97, 116, 101]⟩, ⟨#[98, 117, 115, 121]⟩, ⟨#[112, 97, 114, 107]⟩, ⟨#[115, 99, 114, 105, 112, 116]⟩, ⟨#[110, 111, 110, 101]⟩, ⟨#[108, 105, 110, 101]⟩]
theorem codes_len : codesL.length = 18 := by decide +kernel
theorem codes_eq : splitB codesT 32 = codesL := by decide +kernel
theorem codes_all : ∀ k, (codesL.getD k ⟨#[]⟩).size ≤ 10 := by
  intro k
  by_cases h : k < 18
  · have : ∀ k : Fin 18, (codesL.getD (k : Nat) ⟨#[]⟩).size ≤ 10 := by decide +kernel
    exact this ⟨k, h⟩
  · rw [List.getD, List.getElem?_eq_none (by rw [codes_len]; omega)]; decide
theorem codes_split (w : World) : Calls Tryd.prog 51 #[.string ⟨#[111, 107, 32, 97, 114, 103, 32, 110, 105, 108, 32, 102, 111, 114, 109, 32, 108, 111, 110, 103, 32, 97, 100, 100, 114, 32, 110, 111, 109, 101, 109, 32, 116, 97, 103, 32, 104, 97, 110, 100, 108, 101, 32, 99, 108, 111, 115, 101, 100, 32, 98, 108, 111, 99, 107, 32, 99, 97, 110, 99, 101, 108, 32, 108, 97, 116, 101, 32, 98, 117, 115, 121, 32, 112, 97, 114, 107, 32, 115, 99, 114, 105, 112, 116, 32, 110, 111, 110, 101, 32, 108, 105, 110, 101]⟩, .int .u8 32] w fun e w' => ∃ A cp, e = .returned (.slice A 18 cp) ∧ Rd w' A (rows codesL) ∧ Below w.heap.size w w' := by
  refine (Split_any codesT 32 w (by decide +kernel)).mono fun e w' => ?_
  rw [codes_eq, codes_len]
  rintro ⟨A, cp, he, ho, hb⟩
  exact ⟨A, cp, he, own_rd ho, hb⟩

def stepsT : ByteArray := ⟨#[105, 100, 108, 101, 32, 103, 101, 116, 101, 112, 111, 99, 104, 32, 115, 101, 116, 101, 112, 111, 99, 104, 32, 103, 101, 116, 114, 111, 111, 116, 32, 115, 101, 116, 103, 117, 97, 114, 100, 32, 97, 115, 107, 114, 111, 111, 116, 32, 103, 101, 116, 116, 97, 103, 32, 103, 101, 116, 114, 101, 99, 111, 114, 100, 32, 103, 101, 116, 115, 101, 113, 32, 103, 101, 116, 97, 114, 103, 115, 32, 97, 115, 107, 115, 101, 113, 32, 103, 101, 116, 109, 97, 105, 108, 32, 115, 119, 97, 112, 109, 97, 105, 108, 32, 115, 101, 116, 116, 97, 103, 32, 115, 101, 116, 114, 101, 99, 111, 114, 100, 32, 115, 119, 97, 112, 114, 111, 111, 116, 32, 97, 100, 100, 112, 104, 97, 115, 101, 32, 115, 101, 116, 97, 114, 103, 115, 32, 115, 101, 116, 115, 101, 113, 32, 97, 115, 107, 109, 97, 105, 108, 32, 100, 114, 111, 112, 103, 117, 97, 114, 100, 32, 103, 101, 116, 115, 116, 97, 109, 112, 32, 103, 101, 116, 111, 119, 110, 32, 115, 119, 97, 112, 111, 119, 110, 32, 103, 101, 116, 103, 108, 111, 98, 97, 108, 32, 103, 101, 116, 101, 112, 111, 99, 104, 115, 32, 115, 119, 97, 112, 103, 108, 111, 98, 97, 108, 32, 103, 101, 116, 103, 117, 97, 114, 100, 115, 32, 108, 101, 97, 118, 101, 101, 112, 111, 99, 104, 32, 119, 97, 105, 116, 109, 97, 105, 108, 32, 119, 97, 105, 116, 103, 108, 111, 98, 97, 108, 32, 119, 97, 105, 116, 101, 112, 111, 99, 104, 32, 119, 97, 105, 116, 114, 111, 111, 116, 32, 119, 97, 105, 116, 103, 117, 97, 114, 100, 32, 119, 97, 105, 116, 97, 115, 107, 32, 119, 97, 105, 116, 116, 97, 103, 32, 119, 97, 105, 116, 114, 101, 99, 111, 114, 100, 32, 119, 97, 105, 116, 100, 114, 111, 112, 32, 119, 97, 105, 116, 108, 101, 97, 118, 101]⟩
def stepsL : List ByteArray := [⟨#[105, 100, 108, 101]⟩, ⟨#[103, 101, 116, 101, 112, 111, 99, 104]⟩, ⟨#[115, 101, 116, 101, 112, 111, 99, 104]⟩, ⟨#[103, 101, 116, 114, 111, 111, 116]⟩, ⟨#[115, 101, 116, 103, 117, 97, 114, 100]⟩, ⟨#[97, 115, 107, 114, 111, 111, 116]⟩, ⟨#[103, 101, 116, 116, 97, 103]⟩, ⟨#[103, 101, 116, 114, 101, 99, 111, 114, 100]⟩, ⟨#[103, 101, 116, 115, 101, 113]⟩, ⟨#[103, 101, 116, 97, 114, 103, 115]⟩, ⟨#[97, 115, 107, 115, 101, 113]⟩, ⟨#[103, 101, 116, 109, 97, 105, 108]⟩, ⟨#[115, 119, 97, 112, 109, 97, 105, 108]⟩, ⟨#[115, 101, 116, 116, 97, 103]⟩, ⟨#[115, 101, 116, 114, 101, 99, 111, 114, 100]⟩, ⟨#[115, 119, 97, 112, 114, 111, 111, 116]⟩, ⟨#[97, 100, 100, 112, 104, 97, 115, 101]⟩, ⟨#[115, 101, 116, 97, 114, 103, 115]⟩, ⟨#[115, 101, 116, 115, 101, 113]⟩, ⟨#[97, 115, 107, 109, 97, 105, 108]⟩, ⟨#[100, 114, 111, 112, 103, 117, 97, 114, 100]⟩, ⟨#[103, 101, 116, 115, 116, 97, 109, 112]⟩, ⟨#[103, 101, 116, 111, 119, 110]⟩, ⟨#[115, 119, 97, 112, 111, 119, 110]⟩, ⟨#[103, 101, 116, 103, 108, 111, 98, 97, 108]⟩, ⟨#[103, 101, 116, 101, 112, 111, 99, 104, 115]⟩, ⟨#[115, 119, 97, 112, 103, 108, 111, 98, 97, 108]⟩, ⟨#[103, 101, 116, 103, 117, 97, 114, 100, 115]⟩, ⟨#[108, 101, 97, 118, 101, 101, 112, 111, 99, 104]⟩, ⟨#[119, 97, 105, 116, 109, 97, 105, 108]⟩, ⟨#[119, 97, 105, 116, 103, 108, 111, 98, 97, 108]⟩, ⟨#[119, 97, 105, 116, 101, 112, 111, 99, 104]⟩, ⟨#[119, 97, 105, 116, 114, 111, 111, 116]⟩, ⟨#[119, 97, 105, 116, 103, 117, 97, 114, 100]⟩, ⟨#[119, 97, 105, 116, 97, 115, 107]⟩, ⟨#[119, 97, 105, 116, 116, 97, 103]⟩, ⟨#[119, 97, 105, 116, 114, 101, 99, 111, 114, 100]⟩, ⟨#[119, 97, 105, 116, 100, 114, 111, 112]⟩, ⟨#[119, 97, 105, 116, 108, 101, 97, 118, 101]⟩]
theorem steps_len : stepsL.length = 39 := by decide +kernel
theorem steps_eq : splitB stepsT 32 = stepsL := by decide +kernel
theorem steps_all : ∀ k, (stepsL.getD k ⟨#[]⟩).size ≤ 10 := by
  intro k
  by_cases h : k < 39
  · have : ∀ k : Fin 39, (stepsL.getD (k : Nat) ⟨#[]⟩).size ≤ 10 := by decide +kernel
    exact this ⟨k, h⟩
  · rw [List.getD, List.getElem?_eq_none (by rw [steps_len]; omega)]; decide
theorem steps_split (w : World) : Calls Tryd.prog 51 #[.string ⟨#[105, 100, 108, 101, 32, 103, 101, 116, 101, 112, 111, 99, 104, 32, 115, 101, 116, 101, 112, 111, 99, 104, 32, 103, 101, 116, 114, 111, 111, 116, 32, 115, 101, 116, 103, 117, 97, 114, 100, 32, 97, 115, 107, 114, 111, 111, 116, 32, 103, 101, 116, 116, 97, 103, 32, 103, 101, 116, 114, 101, 99, 111, 114, 100, 32, 103, 101, 116, 115, 101, 113, 32, 103, 101, 116, 97, 114, 103, 115, 32, 97, 115, 107, 115, 101, 113, 32, 103, 101, 116, 109, 97, 105, 108, 32, 115, 119, 97, 112, 109, 97, 105, 108, 32, 115, 101, 116, 116, 97, 103, 32, 115, 101, 116, 114, 101, 99, 111, 114, 100, 32, 115, 119, 97, 112, 114, 111, 111, 116, 32, 97, 100, 100, 112, 104, 97, 115, 101, 32, 115, 101, 116, 97, 114, 103, 115, 32, 115, 101, 116, 115, 101, 113, 32, 97, 115, 107, 109, 97, 105, 108, 32, 100, 114, 111, 112, 103, 117, 97, 114, 100, 32, 103, 101, 116, 115, 116, 97, 109, 112, 32, 103, 101, 116, 111, 119, 110, 32, 115, 119, 97, 112, 111, 119, 110, 32, 103, 101, 116, 103, 108, 111, 98, 97, 108, 32, 103, 101, 116, 101, 112, 111, 99, 104, 115, 32, 115, 119, 97, 112, 103, 108, 111, 98, 97, 108, 32, 103, 101, 116, 103, 117, 97, 114, 100, 115, 32, 108, 101, 97, 118, 101, 101, 112, 111, 99, 104, 32, 119, 97, 105, 116, 109, 97, 105, 108, 32, 119, 97, 105, 116, 103, 108, 111, 98, 97, 108, 32, 119, 97, 105, 116, 101, 112, 111, 99, 104, 32, 119, 97, 105, 116, 114, 111, 111, 116, 32, 119, 97, 105, 116, 103, 117, 97, 114, 100, 32, 119, 97, 105, 116, 97, 115, 107, 32, 119, 97, 105, 116, 116, 97, 103, 32, 119, 97, 105, 116, 114, 101, 99, 111, 114, 100, 32, 119, 97, 105, 116, 100, 114, 111, 112, 32, 119, 97, 105, 116, 108, 101, 97, 118, 101]⟩, .int .u8 32] w fun e w' => ∃ A cp, e = .returned (.slice A 39 cp) ∧ Rd w' A (rows stepsL) ∧ Below w.heap.size w w' := by
  refine (Split_any stepsT 32 w (by decide +kernel)).mono fun e w' => ?_
  rw [steps_eq, steps_len]
  rintro ⟨A, cp, he, ho, hb⟩
  exact ⟨A, cp, he, own_rd ho, hb⟩

def sortsT : ByteArray := ⟨#[110, 111, 116, 104, 105, 110, 103, 32, 114, 111, 111, 116, 32, 101, 112, 111, 99, 104, 32, 112, 104, 97, 115, 101, 32, 115, 101, 113, 32, 97, 114, 103, 115, 32, 103, 117, 97, 114, 100, 32, 105, 110, 32, 109, 97, 105, 108, 32, 116, 97, 103, 32, 119, 111, 114, 100]⟩
def sortsL : List ByteArray := [⟨#[110, 111, 116, 104, 105, 110, 103]⟩, ⟨#[114, 111, 111, 116]⟩, ⟨#[101, 112, 111, 99, 104]⟩, ⟨#[112, 104, 97, 115, 101]⟩, ⟨#[115, 101, 113]⟩, ⟨#[97, 114, 103, 115]⟩, ⟨#[103, 117, 97, 114, 100]⟩, ⟨#[105, 110]⟩, ⟨#[109, 97, 105, 108]⟩, ⟨#[116, 97, 103]⟩, ⟨#[119, 111, 114, 100]⟩]
theorem sorts_len : sortsL.length = 11 := by decide +kernel
theorem sorts_eq : splitB sortsT 32 = sortsL := by decide +kernel
theorem sorts_all : ∀ k, (sortsL.getD k ⟨#[]⟩).size ≤ 10 := by
  intro k
  by_cases h : k < 11
  · have : ∀ k : Fin 11, (sortsL.getD (k : Nat) ⟨#[]⟩).size ≤ 10 := by decide +kernel
    exact this ⟨k, h⟩
  · rw [List.getD, List.getElem?_eq_none (by rw [sorts_len]; omega)]; decide
theorem sorts_split (w : World) : Calls Tryd.prog 51 #[.string ⟨#[110, 111, 116, 104, 105, 110, 103, 32, 114, 111, 111, 116, 32, 101, 112, 111, 99, 104, 32, 112, 104, 97, 115, 101, 32, 115, 101, 113, 32, 97, 114, 103, 115, 32, 103, 117, 97, 114, 100, 32, 105, 110, 32, 109, 97, 105, 108, 32, 116, 97, 103, 32, 119, 111, 114, 100]⟩, .int .u8 32] w fun e w' => ∃ A cp, e = .returned (.slice A 11 cp) ∧ Rd w' A (rows sortsL) ∧ Below w.heap.size w w' := by
  refine (Split_any sortsT 32 w (by decide +kernel)).mono fun e w' => ?_
  rw [sorts_eq, sorts_len]
  rintro ⟨A, cp, he, ho, hb⟩
  exact ⟨A, cp, he, own_rd ho, hb⟩

def codeS (e : Int) : ByteArray := if 0 ≤ e ∧ e < 18 then codesL.getD e.toNat ⟨#[]⟩ else ⟨#[101, 114, 114, 111, 114]⟩
theorem codeS_size (e : Int) : (codeS e).size ≤ 10 := by
  unfold codeS
  split
  · exact codes_all _
  · decide
theorem codeS_in (k : Nat) (h : k < 18) : codeS (k : Int) = codesL.getD k ⟨#[]⟩ := by
  unfold codeS; rw [if_pos (by omega)]; rfl
theorem codeS_out (e : Int) (h : e < 0 ∨ 18 ≤ e) : codeS e = ⟨#[101, 114, 114, 111, 114]⟩ := by
  unfold codeS; rw [if_neg (by omega)]

set_option maxHeartbeats 4000000 in
set_option maxRecDepth 100000 in
theorem rcodeS_any (e : Int) (w : World) : Calls Tryd.prog 19 #[.int .i64 e] w fun er w' => er = .returned (.string (codeS e)) ∧ Below w.heap.size w w' := by
  have HSP := Lib.hid (codes_split w)
  by_cases h0 : e < 0 ∨ 18 ≤ e
  · have HV := Lib.hid (codeS_out e h0)
    generalize codeS e = R at *
    rcases h0 with h0 | h0
    all_goals
      go_enter Tryd.func19, Tryd.ntmps19
      go_wp2_with fail
      refine HSP.out.mono ?_
      rintro er w1 ⟨A, cp, rfl, hr, hb⟩
      go_wp2
      go_ret
      exact ⟨by rw [HV.out]; rfl, hb⟩
  · obtain ⟨k, rfl⟩ := Int.eq_ofNat_of_zero_le (show 0 ≤ e by omega)
    have hk : k < 18 := by omega
    have HV := Lib.hid (codeS_in k hk)
    generalize codeS (k : Int) = R at *
    have q0 : (0 : Int) ≤ (k : Int) := by omega
    have q1 : (k : Int) < 18 := by omega
    clear h0
    go_enter Tryd.func19, Tryd.ntmps19
    go_wp2_with fail
    refine HSP.out.mono ?_
    rintro er w1 ⟨A, cp, rfl, hr, hb⟩
    have hr1 := rd_str hr (k := k) (by rw [codes_len]; exact hk)
    obtain ⟨b, o, rfl, hbl, hc⟩ := hr1
    generalize codesL.getD k ⟨#[]⟩ = x at *
    clear hr
    go_wp2
    go_ret
    exact ⟨by rw [HV.out]; rfl, hb⟩

def stepS (e : Int) : ByteArray := if 0 ≤ e ∧ e < 39 then stepsL.getD e.toNat ⟨#[]⟩ else ⟨#[110, 111, 119, 104, 101, 114, 101]⟩
theorem stepS_size (e : Int) : (stepS e).size ≤ 10 := by
  unfold stepS
  split
  · exact steps_all _
  · decide
theorem stepS_in (k : Nat) (h : k < 39) : stepS (k : Int) = stepsL.getD k ⟨#[]⟩ := by
  unfold stepS; rw [if_pos (by omega)]; rfl
theorem stepS_out (e : Int) (h : e < 0 ∨ 39 ≤ e) : stepS e = ⟨#[110, 111, 119, 104, 101, 114, 101]⟩ := by
  unfold stepS; rw [if_neg (by omega)]

set_option maxHeartbeats 4000000 in
set_option maxRecDepth 100000 in
theorem rstepS_any (e : Int) (w : World) : Calls Tryd.prog 21 #[.int .i64 e] w fun er w' => er = .returned (.string (stepS e)) ∧ Below w.heap.size w w' := by
  have HSP := Lib.hid (steps_split w)
  by_cases h0 : e < 0 ∨ 39 ≤ e
  · have HV := Lib.hid (stepS_out e h0)
    generalize stepS e = R at *
    rcases h0 with h0 | h0
    all_goals
      go_enter Tryd.func21, Tryd.ntmps21
      go_wp2_with fail
      refine HSP.out.mono ?_
      rintro er w1 ⟨A, cp, rfl, hr, hb⟩
      go_wp2
      go_ret
      exact ⟨by rw [HV.out]; rfl, hb⟩
  · obtain ⟨k, rfl⟩ := Int.eq_ofNat_of_zero_le (show 0 ≤ e by omega)
    have hk : k < 39 := by omega
    have HV := Lib.hid (stepS_in k hk)
    generalize stepS (k : Int) = R at *
    have q0 : (0 : Int) ≤ (k : Int) := by omega
    have q1 : (k : Int) < 39 := by omega
    clear h0
    go_enter Tryd.func21, Tryd.ntmps21
    go_wp2_with fail
    refine HSP.out.mono ?_
    rintro er w1 ⟨A, cp, rfl, hr, hb⟩
    have hr1 := rd_str hr (k := k) (by rw [steps_len]; exact hk)
    obtain ⟨b, o, rfl, hbl, hc⟩ := hr1
    generalize stepsL.getD k ⟨#[]⟩ = x at *
    clear hr
    go_wp2
    go_ret
    exact ⟨by rw [HV.out]; rfl, hb⟩

end Go.Proofs.YtknlhkkpheahlaaDoor
