/- The document's digits of a word, hexadecimal and decimal: two functions that call themselves, walked. -/
import Derived.Test.YtalkllfgedacoaaGreatDoorD9
import Derived.Deep.MidRow
import Derived.Deep.RegionHeld3
import Derived.Deep.LoopGhost
import Derived.Test.YtalkllfgedacoaaGreatDoorD4
import Derived.Test.YtalkllfgedacoaaGreatDoorD3
import Derived.Deep.DeepCutAuto
import Derived.Deep.WholeRow
import Derived.Great.Walk
import Derived.Laws.Bits64b
import Derived.OwnWalk
namespace Go.Proofs.YtalkllfgedacoaaGreatDoor
open Go.RowKit Go.Sort

/-- An event's rows are no longer than this. -/
structure EvSm (x : Ev) : Prop where
  cs : x.rq.cs.length ≤ 1048576
  outs : x.outs.length ≤ 1048576
theorem EvAt.small {w : World} {a : EvR} {x : Ev} (h : EvAt w a x) (hs : EvSm x) : a.Small := ⟨by rw [← h.req.len]; exact hs.cs, by rw [← h.len]; exact hs.outs⟩
theorem ev_range {w wr : World} {b o k : Nat} {l : List EvR} (hc : ∀ j v, (rows l)[j]? = some v → w.cell? ⟨b, o + j, none⟩ = some v) (hk : k < l.length) (hb : b < w.heap.size) (hw : Below w.heap.size w wr) : wr.rangeAt b (o + k * 9) (l.getD k EvR.none).cells := fun j v hv =>
  (hw.cell (p := ⟨b, o + k * 9 + j, none⟩) hb).trans (rec_cell hc hk rfl j v hv)

set_option maxHeartbeats 8000000 in
set_option maxRecDepth 100000 in
theorem Events_same (A B : Option Addr) (n c d : Nat) (x : List Ev) (w : World) (hn : n ≤ 1048576) (hA : EvsIn w A n x) (hB : EvsIn w B n x) (hs : ∀ e ∈ x, EvSm e) :
    Calls Tryz.prog 26 #[.slice A n c, .slice B n d] w fun e w' => e = .returned (.bool true) ∧ Below w.heap.size w w' := by
  obtain ⟨la, hla, hra, hea⟩ := hA.ex
  obtain ⟨lb, hlb, hrb, heb⟩ := hB.ex
  have HLA := Lib.hid hla
  have HRA := Lib.hid hra
  have HEA := Lib.hid hea
  have HLB := Lib.hid hlb
  have HRB := Lib.hid hrb
  have HEB := Lib.hid heb
  have HS := Lib.hid hs
  have HXL := Lib.hid hA.len
  have HU := Lib.hid Tryz.underlying74
  clear hA hB hla hra hea hlb hrb heb hs
  go_enter Tryz.func26, Tryz.ntmps26
  go_wp2_with fail
  go_loopg [13] n (fun gg i wr => ∃ k : Nat, k ≤ n ∧ gg = n - k ∧ i = .int .i64 k ∧ Below w.heap.size w wr)
  case atStart => exact ⟨0, Nat.zero_le _, rfl, rfl, Below.refl _ _⟩
  case round =>
    obtain ⟨k, hk, hg, rfl, hb⟩ := hrel
    have HG := Lib.hid hg
    have HBW := Lib.hid hb
    clear hg hb
    by_cases hlt : k < n
    · have q1 : (k : Int) < (n : Int) := by omega
      have q2 : (0 : Int) ≤ (k : Int) := by omega
      have hk1 : k < la.length := by rw [HLA.out]; exact hlt
      have hk2 : k < lb.length := by rw [HLB.out]; exact hlt
      obtain ⟨b1, o1, rfl, hb1, hc1⟩ := HRA.out.at_ (by rw [rows_length]; exact Nat.mul_pos (by omega) (by decide))
      obtain ⟨b2, o2, rfl, hb2, hc2⟩ := HRB.out.at_ (by rw [rows_length]; exact Nat.mul_pos (by omega) (by decide))
      have hr1 := ev_range hc1 hk1 hb1 HBW.out
      have hr2 := ev_range hc2 hk2 hb2 HBW.out
      have hbw1 := Nat.lt_of_lt_of_le hb1 HBW.out.size
      have hbw2 := Nat.lt_of_lt_of_le hb2 HBW.out.size
      have he1 := (HEA.out.below HBW.out).at hk1
      have he2 := (HEB.out.below HBW.out).at hk2
      have hsm : EvSm (x.getD k evNone) := HS.out _ (by rw [List.getD, List.getElem?_eq_getElem (by rw [HXL.out]; exact hlt)]; exact List.getElem_mem _)
      have HE : RowKit.Hid (∀ W, Below wr.heap.size wr W → Calls Tryz.prog 28 #[.agg (la.getD k EvR.none).cells.toArray, .agg (lb.getD k EvR.none).cells.toArray] W fun e w' => e = .returned (.bool true) ∧ Below W.heap.size W w') := Lib.hid (fun W h => (evPlain_any (la.getD k EvR.none) (lb.getD k EvR.none) _ _ W (he1.below h) (he2.below h) (he1.small hsm) (he2.small hsm)).mono fun e w' h => by rw [decide_eq_true rfl] at h; exact h)
      have HI1 : RowKit.Hid ((Tryz.prog.info? 74).map (·.size) = some (la.getD k EvR.none).cells.length) := Lib.hid ev_size
      have HI2 : RowKit.Hid ((Tryz.prog.info? 74).map (·.size) = some (lb.getD k EvR.none).cells.length) := Lib.hid ev_size
      clear he1 he2 hsm hc1 hc2 hk1 hk2
      generalize (la.getD k EvR.none).cells = L1 at *
      generalize (lb.getD k EvR.none).cells = L2 at *
      have HSB : RowKit.Hid (∀ w', Below wr.heap.size wr w' → (w'.rangeAt b1 (o1 + k * 9) L1 ∧ w'.rangeAt b2 (o2 + k * 9) L2)) := Lib.hid (fun w' hb => ⟨fun j v hv => (hb.cell (p := ⟨b1, o1 + k * 9 + j, none⟩) hbw1).trans (hr1 j v hv), fun j v hv => (hb.cell (p := ⟨b2, o2 + k * 9 + j, none⟩) hbw2).trans (hr2 j v hv)⟩)
      have HP0 : RowKit.Hid (Below wr.heap.size wr wr.drew) := Lib.hid (Below.drewN' (Below.refl wr.heap.size wr) 1)
      clear hr1 hr2
      go_upto_region 6 with (fail)
      refine wp_region_held_drew (S := fun w' => w'.rangeAt b1 (o1 + k * 9) L1 ∧ w'.rangeAt b2 (o2 + k * 9) L2) (by kernel_rfl) (HSB.out _ (Below.drewN' (Below.refl wr.heap.size wr) 1)) (fun hHeld => ?_)
      refine wpAnyH_take (i := 0) (v := .slice (some ⟨b1, o1, none⟩) n c) rfl (by kernel_rfl) (by kernel_rfl) (by kernel_rfl) (fun _ _ _ h => h) (Or.inl ⟨by rfl, fun w hSw => by go_simp⟩) hHeld ?_
      try simp only [Act.put, List.getElem_toArray, List.getElem_cons_zero, List.setIfInBounds_toArray, List.set_cons_zero, List.set_cons_succ]
      refine wpAnyH_take (i := 1) (v := .int .i64 k) rfl (by kernel_rfl) (by kernel_rfl) (by kernel_rfl) (fun _ _ _ h => h) (Or.inl ⟨by rfl, fun w hSw => by go_simp⟩) hHeld ?_
      try simp only [Act.put, List.getElem_toArray, List.getElem_cons_succ, List.getElem_cons_zero, List.setIfInBounds_toArray, List.set_cons_zero, List.set_cons_succ]
      refine wpAnyH_take (i := 2) (v := .pointer (some ⟨b1, o1 + k * 9, none⟩)) rfl (by kernel_rfl) (by kernel_rfl) (by kernel_rfl) (fun _ _ _ h => h) (Or.inl ⟨by rfl, fun w hSw => by go_simp⟩) hHeld ?_
      try simp only [Act.put, List.getElem_toArray, List.getElem_cons_succ, List.getElem_cons_zero, List.setIfInBounds_toArray, List.set_cons_zero, List.set_cons_succ]
      refine wpAnyH_take (i := 3) (v := .agg L1.toArray) rfl (by kernel_rfl) (by kernel_rfl) (by kernel_rfl) (fun _ _ _ h => h) (yieldsIf_load_mid (by rfl) _ _ rfl _ _ rfl L1 _ (fun _ h => h.1) HU.out rfl HI1.out) hHeld ?_
      try simp only [Act.put, List.getElem_toArray, List.getElem_cons_succ, List.getElem_cons_zero, List.setIfInBounds_toArray, List.set_cons_zero, List.set_cons_succ]
      refine wpAnyH_take (i := 4) (v := .slice (some ⟨b2, o2, none⟩) n d) rfl (by kernel_rfl) (by kernel_rfl) (by kernel_rfl) (fun _ _ _ h => h) (Or.inl ⟨by rfl, fun w hSw => by go_simp⟩) hHeld ?_
      try simp only [Act.put, List.getElem_toArray, List.getElem_cons_succ, List.getElem_cons_zero, List.setIfInBounds_toArray, List.set_cons_zero, List.set_cons_succ]
      refine wpAnyH_take (i := 5) (v := .int .i64 k) rfl (by kernel_rfl) (by kernel_rfl) (by kernel_rfl) (fun _ _ _ h => h) (Or.inl ⟨by rfl, fun w hSw => by go_simp⟩) hHeld ?_
      try simp only [Act.put, List.getElem_toArray, List.getElem_cons_succ, List.getElem_cons_zero, List.setIfInBounds_toArray, List.set_cons_zero, List.set_cons_succ]
      refine wpAnyH_take (i := 6) (v := .pointer (some ⟨b2, o2 + k * 9, none⟩)) rfl (by kernel_rfl) (by kernel_rfl) (by kernel_rfl) (fun _ _ _ h => h) (Or.inl ⟨by rfl, fun w hSw => by go_simp⟩) hHeld ?_
      try simp only [Act.put, List.getElem_toArray, List.getElem_cons_succ, List.getElem_cons_zero, List.setIfInBounds_toArray, List.set_cons_zero, List.set_cons_succ]
      refine wpAnyH_take (i := 7) (v := .agg L2.toArray) rfl (by kernel_rfl) (by kernel_rfl) (by kernel_rfl) (fun _ _ _ h => h) (yieldsIf_load_mid (by rfl) _ _ rfl _ _ rfl L2 _ (fun _ h => h.2) HU.out rfl HI2.out) hHeld ?_
      try simp only [Act.put, List.getElem_toArray, List.getElem_cons_succ, List.getElem_cons_zero, List.setIfInBounds_toArray, List.set_cons_zero, List.set_cons_succ]
      refine wpAnyH_ready (rs := [8]) (by kernel_rfl) (by simp) ?_
      refine AllReadyH.cons rfl (fun K hK => ?_) AllReadyH.nil
      clear hHeld
      rw [if_pos (by rfl)]
      simp only [List.getElem_toArray, List.getElem_cons_succ, List.getElem_cons_zero]
      go_simp
      refine (HE.out wr.drew HP0.out).mono ?_
      rintro er v1 ⟨rfl, hb1⟩
      have hB1 : Below wr.heap.size wr v1 := ⟨hb1.os, hb1.tape, hb1.output, hb1.size, hb1.block⟩
      go_wp2_with fail
      refine hK.out _ _ (HSB.out _ hB1) (fun hHeld => ?_)
      clear hK K
      try simp only [Act.put, List.getElem_toArray, List.getElem_cons_succ, List.getElem_cons_zero, List.setIfInBounds_toArray, List.set_cons_zero, List.set_cons_succ]
      refine wpAnyH_take (i := 9) (v := .bool false) rfl (by kernel_rfl) (by kernel_rfl) (by kernel_rfl) (fun _ _ _ h => h) (Or.inl ⟨by rfl, fun w hSw => by go_simp⟩) hHeld ?_
      try simp only [Act.put, List.getElem_toArray, List.getElem_cons_succ, List.getElem_cons_zero, List.setIfInBounds_toArray, List.set_cons_zero, List.set_cons_succ]
      clear hHeld
      refine wpAnyH_done (by kernel_rfl) ?_ _
      have HB1 := Lib.hid (HBW.out.trans (hB1.mono HBW.out.size))
      clear hb1 hB1
      go_wp2_with fail
      go_roundg (n - (k + 1))
      case measure => rw [HG.out]; omega
      case rel => exact ⟨k + 1, by omega, rfl, by go_num, HB1.out⟩
    · obtain rfl : k = n := by omega
      have q1 : ¬ (k : Int) < (k : Int) := by omega
      go_wp2_with fail
      go_ret
      exact ⟨rfl, HBW.out⟩

end Go.Proofs.YtalkllfgedacoaaGreatDoor

namespace Go.Proofs.YtalkllfgedacoaaGreatDoor
open Go.RowKit Go.Sort

theorem tabQ_len {h : ByteArray} {m : Nat} {a b : Int} {r : Rq} (e : tabQ h m a b = some r) : r.cs.length ≤ 3 := by
  have key : ∀ (p : Prop) [Decidable p] (x : Rq), x.cs.length ≤ 3 → (if p then some x else none) = some r → r.cs.length ≤ 3 := fun p _ x hx hh => by
    by_cases hp : p
    · rw [if_pos hp] at hh; injection hh with hh; rw [← hh]; exact hx
    · rw [if_neg hp] at hh; cases hh
  unfold tabQ at e
  by_cases g_make : h = w_makeS
  · rw [if_pos g_make] at e; exact key _ _ (Nat.le_of_ble_eq_true rfl) e
  rw [if_neg g_make] at e
  by_cases g_free : h = w_freeS
  · rw [if_pos g_free] at e; exact key _ _ (Nat.le_of_ble_eq_true rfl) e
  rw [if_neg g_free] at e
  by_cases g_close : h = w_closeS
  · rw [if_pos g_close] at e; exact key _ _ (Nat.le_of_ble_eq_true rfl) e
  rw [if_neg g_close] at e
  by_cases g_len : h = w_lenS
  · rw [if_pos g_len] at e; exact key _ _ (Nat.le_of_ble_eq_true rfl) e
  rw [if_neg g_len] at e
  by_cases g_cap : h = w_capS
  · rw [if_pos g_cap] at e; exact key _ _ (Nat.le_of_ble_eq_true rfl) e
  rw [if_neg g_cap] at e
  by_cases g_send : h = w_sendS
  · rw [if_pos g_send] at e; exact key _ _ (Nat.le_of_ble_eq_true rfl) e
  rw [if_neg g_send] at e
  by_cases g_recv : h = w_recvS
  · rw [if_pos g_recv] at e; exact key _ _ (Nat.le_of_ble_eq_true rfl) e
  rw [if_neg g_recv] at e
  by_cases g_trysend : h = w_trysendS
  · rw [if_pos g_trysend] at e; exact key _ _ (Nat.le_of_ble_eq_true rfl) e
  rw [if_neg g_trysend] at e
  by_cases g_tryrecv : h = w_tryrecvS
  · rw [if_pos g_tryrecv] at e; exact key _ _ (Nat.le_of_ble_eq_true rfl) e
  rw [if_neg g_tryrecv] at e
  by_cases g_cancel : h = w_cancelS
  · rw [if_pos g_cancel] at e; exact key _ _ (Nat.le_of_ble_eq_true rfl) e
  rw [if_neg g_cancel] at e
  by_cases g_put : h = w_putS
  · rw [if_pos g_put] at e; exact key _ _ (Nat.le_of_ble_eq_true rfl) e
  rw [if_neg g_put] at e
  by_cases g_take : h = w_takeS
  · rw [if_pos g_take] at e; exact key _ _ (Nat.le_of_ble_eq_true rfl) e
  rw [if_neg g_take] at e
  cases e

theorem callQ_len {l : List ByteArray} {r : Rq} (h : callQ l = some r) : r.cs.length ≤ 3 := by
  unfold callQ at h
  split at h
  · cases h
  · split at h
    · unfold selQ selN at h
      split at h
      · cases h
      · split at h
        · rename_i hh
          injection h with h
          subst h
          exact hh.2
        · cases h
    · split at h
      · cases h
      · unfold wordN at h
        split at h
        · cases h
        · exact tabQ_len h

end Go.Proofs.YtalkllfgedacoaaGreatDoor

namespace Go.Proofs.YtalkllfgedacoaaGreatDoor
open Go.RowKit Go.Sort

theorem rd_str {w : World} {A : Option Addr} {l : List ByteArray} (h : Rd w A (rows l)) {k : Nat} (hk : k < l.length) : ∃ b o, A = some ⟨b, o, none⟩ ∧ b < w.heap.size ∧ w.cell? ⟨b, o + k, none⟩ = some (.string (l.getD k ⟨#[]⟩)) := by
  obtain ⟨b, o, hA, hb, hc⟩ := h.at_ (by rw [rows_length]; exact Nat.mul_pos (by omega) (by decide))
  refine ⟨b, o, hA, hb, ?_⟩
  have h1 := rec_cell hc hk rfl 0 (.string (l.getD k ⟨#[]⟩)) rfl
  have e : o + k * 1 + 0 = o + k := by omega
  rw [← e]; exact h1

def codesT : ByteArray := ⟨#[111, 107, 32, 97, 114, 103, 32, 110, 105, 108, 32, 102, 111, 114, 109, 32, 108, 111, 110, 103, 32, 97, 100, 100, 114, 32, 110, 111, 109, 101, 109, 32, 116, 97, 103, 32, 104, 97, 110, 100, 108, 101, 32, 99, 108, 111, 115, 101, 100, 32, 98, 108, 111, 99, 107, 32, 99, 97, 110, 99, 101, 108, 32, 108, 97, 116, 101, 32, 98, 117, 115, 121, 32, 112, 97, 114, 107, 32, 115, 99, 114, 105, 112, 116, 32, 110, 111, 110, 101, 32, 108, 105, 110, 101]⟩
def codesL : List ByteArray := [⟨#[111, 107]⟩, ⟨#[97, 114, 103]⟩, ⟨#[110, 105, 108]⟩, ⟨#[102, 111, 114, 109]⟩, ⟨#[108, 111, 110, 103]⟩, ⟨#[97, 100, 100, 114]⟩, ⟨#[110, 111, 109, 101, 109]⟩, ⟨#[116, 97, 103]⟩, ⟨#[104, 97, 110, 100, 108, 101]⟩, ⟨#[99, 108, 111, 115, 101, 100]⟩, ⟨#[98, 108, 111, 99, 107]⟩, ⟨#[99, 97, 110, 99, 101, 108]⟩, ⟨#[108, 97, 116, 101]⟩, ⟨#[98, 117, 115, 121]⟩, ⟨#[112, 97, 114, 107]⟩, ⟨#[115, 99, 114, 105, 112, 116]⟩, ⟨#[110, 111, 110, 101]⟩, ⟨#[108, 105, 110, 101]⟩]
theorem codes_len : codesL.length = 18 := by decide +kernel
theorem codes_eq : splitB codesT 32 = codesL := by decide +kernel
theorem codes_all : ∀ k, (codesL.getD k ⟨#[]⟩).size ≤ 10 := by
  intro k
  by_cases h : k < 18
  · have : ∀ k : Fin 18, (codesL.getD (k : Nat) ⟨#[]⟩).size ≤ 10 := by decide +kernel
    exact this ⟨k, h⟩
  · rw [List.getD, List.getElem?_eq_none (by rw [codes_len]; omega)]; decide
theorem codes_split (w : World) : Calls Tryz.prog 49 #[.string ⟨#[111, 107, 32, 97, 114, 103, 32, 110, 105, 108, 32, 102, 111, 114, 109, 32, 108, 111, 110, 103, 32, 97, 100, 100, 114, 32, 110, 111, 109, 101, 109, 32, 116, 97, 103, 32, 104, 97, 110, 100, 108, 101, 32, 99, 108, 111, 115, 101, 100, 32, 98, 108, 111, 99, 107, 32, 99, 97, 110, 99, 101, 108, 32, 108, 97, 116, 101, 32, 98, 117, 115, 121, 32, 112, 97, 114, 107, 32, 115, 99, 114, 105, 112, 116, 32, 110, 111, 110, 101, 32, 108, 105, 110, 101]⟩, .int .u8 32] w fun e w' => ∃ A cp, e = .returned (.slice A 18 cp) ∧ Rd w' A (rows codesL) ∧ Below w.heap.size w w' := by
  refine (Split_any codesT 32 w (by decide +kernel)).mono fun e w' => ?_
  rw [codes_eq, codes_len]
  rintro ⟨A, cp, he, ho, hb⟩
  exact ⟨A, cp, he, own_rd ho, hb⟩

def stepsT : ByteArray := ⟨#[105, 100, 108, 101, 32, 103, 101, 116, 101, 112, 111, 99, 104, 32, 115, 101, 116, 101, 112, 111, 99, 104, 32, 103, 101, 116, 114, 111, 111, 116, 32, 115, 101, 116, 103, 117, 97, 114, 100, 32, 97, 115, 107, 114, 111, 111, 116, 32, 103, 101, 116, 116, 97, 103, 32, 103, 101, 116, 114, 101, 99, 111, 114, 100, 32, 103, 101, 116, 115, 101, 113, 32, 103, 101, 116, 97, 114, 103, 115, 32, 97, 115, 107, 115, 101, 113, 32, 103, 101, 116, 109, 97, 105, 108, 32, 115, 119, 97, 112, 109, 97, 105, 108, 32, 115, 101, 116, 116, 97, 103, 32, 115, 101, 116, 114, 101, 99, 111, 114, 100, 32, 115, 119, 97, 112, 114, 111, 111, 116, 32, 97, 100, 100, 112, 104, 97, 115, 101, 32, 115, 101, 116, 97, 114, 103, 115, 32, 115, 101, 116, 115, 101, 113, 32, 97, 115, 107, 109, 97, 105, 108, 32, 100, 114, 111, 112, 103, 117, 97, 114, 100, 32, 103, 101, 116, 115, 116, 97, 109, 112, 32, 103, 101, 116, 111, 119, 110, 32, 115, 119, 97, 112, 111, 119, 110, 32, 103, 101, 116, 103, 108, 111, 98, 97, 108, 32, 103, 101, 116, 101, 112, 111, 99, 104, 115, 32, 115, 119, 97, 112, 103, 108, 111, 98, 97, 108, 32, 103, 101, 116, 103, 117, 97, 114, 100, 115, 32, 108, 101, 97, 118, 101, 101, 112, 111, 99, 104, 32, 119, 97, 105, 116, 109, 97, 105, 108, 32, 119, 97, 105, 116, 103, 108, 111, 98, 97, 108, 32, 119, 97, 105, 116, 101, 112, 111, 99, 104, 32, 119, 97, 105, 116, 114, 111, 111, 116, 32, 119, 97, 105, 116, 103, 117, 97, 114, 100, 32, 119, 97, 105, 116, 97, 115, 107, 32, 119, 97, 105, 116, 116, 97, 103, 32, 119, 97, 105, 116, 114, 101, 99, 111, 114, 100, 32, 119, 97, 105, 116, 100, 114, 111, 112, 32, 119, 97, 105, 116, 108, 101, 97, 118, 101]⟩
def stepsL : List ByteArray := [⟨#[105, 100, 108, 101]⟩, ⟨#[103, 101, 116, 101, 112, 111, 99, 104]⟩, ⟨#[115, 101, 116, 101, 112, 111, 99, 104]⟩, ⟨#[103, 101, 116, 114, 111, 111, 116]⟩, ⟨#[115, 101, 116, 103, 117, 97, 114, 100]⟩, ⟨#[97, 115, 107, 114, 111, 111, 116]⟩, ⟨#[103, 101, 116, 116, 97, 103]⟩, ⟨#[103, 101, 116, 114, 101, 99, 111, 114, 100]⟩, ⟨#[103, 101, 116, 115, 101, 113]⟩, ⟨#[103, 101, 116, 97, 114, 103, 115]⟩, ⟨#[97, 115, 107, 115, 101, 113]⟩, ⟨#[103, 101, 116, 109, 97, 105, 108]⟩, ⟨#[115, 119, 97, 112, 109, 97, 105, 108]⟩, ⟨#[115, 101, 116, 116, 97, 103]⟩, ⟨#[115, 101, 116, 114, 101, 99, 111, 114, 100]⟩, ⟨#[115, 119, 97, 112, 114, 111, 111, 116]⟩, ⟨#[97, 100, 100, 112, 104, 97, 115, 101]⟩, ⟨#[115, 101, 116, 97, 114, 103, 115]⟩, ⟨#[115, 101, 116, 115, 101, 113]⟩, ⟨#[97, 115, 107, 109, 97, 105, 108]⟩, ⟨#[100, 114, 111, 112, 103, 117, 97, 114, 100]⟩, ⟨#[103, 101, 116, 115, 116, 97, 109, 112]⟩, ⟨#[103, 101, 116, 111, 119, 110]⟩, ⟨#[115, 119, 97, 112, 111, 119, 110]⟩, ⟨#[103, 101, 116, 103, 108, 111, 98, 97, 108]⟩, ⟨#[103, 101, 116, 101, 112, 111, 99, 104, 115]⟩, ⟨#[115, 119, 97, 112, 103, 108, 111, 98, 97, 108]⟩, ⟨#[103, 101, 116, 103, 117, 97, 114, 100, 115]⟩, ⟨#[108, 101, 97, 118, 101, 101, 112, 111, 99, 104]⟩, ⟨#[119, 97, 105, 116, 109, 97, 105, 108]⟩, ⟨#[119, 97, 105, 116, 103, 108, 111, 98, 97, 108]⟩, ⟨#[119, 97, 105, 116, 101, 112, 111, 99, 104]⟩, ⟨#[119, 97, 105, 116, 114, 111, 111, 116]⟩, ⟨#[119, 97, 105, 116, 103, 117, 97, 114, 100]⟩, ⟨#[119, 97, 105, 116, 97, 115, 107]⟩, ⟨#[119, 97, 105, 116, 116, 97, 103]⟩, ⟨#[119, 97, 105, 116, 114, 101, 99, 111, 114, 100]⟩, ⟨#[119, 97, 105, 116, 100, 114, 111, 112]⟩, ⟨#[119, 97, 105, 116, 108, 101, 97, 118, 101]⟩]
theorem steps_len : stepsL.length = 39 := by decide +kernel
theorem steps_eq : splitB stepsT 32 = stepsL := by decide +kernel
theorem steps_all : ∀ k, (stepsL.getD k ⟨#[]⟩).size ≤ 10 := by
  intro k
  by_cases h : k < 39
  · have : ∀ k : Fin 39, (stepsL.getD (k : Nat) ⟨#[]⟩).size ≤ 10 := by decide +kernel
    exact this ⟨k, h⟩
  · rw [List.getD, List.getElem?_eq_none (by rw [steps_len]; omega)]; decide
theorem steps_split (w : World) : Calls Tryz.prog 49 #[.string ⟨#[105, 100, 108, 101, 32, 103, 101, 116, 101, 112, 111, 99, 104, 32, 115, 101, 116, 101, 112, 111, 99, 104, 32, 103, 101, 116, 114, 111, 111, 116, 32, 115, 101, 116, 103, 117, 97, 114, 100, 32, 97, 115, 107, 114, 111, 111, 116, 32, 103, 101, 116, 116, 97, 103, 32, 103, 101, 116, 114, 101, 99, 111, 114, 100, 32, 103, 101, 116, 115, 101, 113, 32, 103, 101, 116, 97, 114, 103, 115, 32, 97, 115, 107, 115, 101, 113, 32, 103, 101, 116, 109, 97, 105, 108, 32, 115, 119, 97, 112, 109, 97, 105, 108, 32, 115, 101, 116, 116, 97, 103, 32, 115, 101, 116, 114, 101, 99, 111, 114, 100, 32, 115, 119, 97, 112, 114, 111, 111, 116, 32, 97, 100, 100, 112, 104, 97, 115, 101, 32, 115, 101, 116, 97, 114, 103, 115, 32, 115, 101, 116, 115, 101, 113, 32, 97, 115, 107, 109, 97, 105, 108, 32, 100, 114, 111, 112, 103, 117, 97, 114, 100, 32, 103, 101, 116, 115, 116, 97, 109, 112, 32, 103, 101, 116, 111, 119, 110, 32, 115, 119, 97, 112, 111, 119, 110, 32, 103, 101, 116, 103, 108, 111, 98, 97, 108, 32, 103, 101, 116, 101, 112, 111, 99, 104, 115, 32, 115, 119, 97, 112, 103, 108, 111, 98, 97, 108, 32, 103, 101, 116, 103, 117, 97, 114, 100, 115, 32, 108, 101, 97, 118, 101, 101, 112, 111, 99, 104, 32, 119, 97, 105, 116, 109, 97, 105, 108, 32, 119, 97, 105, 116, 103, 108, 111, 98, 97, 108, 32, 119, 97, 105, 116, 101, 112, 111, 99, 104, 32, 119, 97, 105, 116, 114, 111, 111, 116, 32, 119, 97, 105, 116, 103, 117, 97, 114, 100, 32, 119, 97, 105, 116, 97, 115, 107, 32, 119, 97, 105, 116, 116, 97, 103, 32, 119, 97, 105, 116, 114, 101, 99, 111, 114, 100, 32, 119, 97, 105, 116, 100, 114, 111, 112, 32, 119, 97, 105, 116, 108, 101, 97, 118, 101]⟩, .int .u8 32] w fun e w' => ∃ A cp, e = .returned (.slice A 39 cp) ∧ Rd w' A (rows stepsL) ∧ Below w.heap.size w w' := by
  refine (Split_any stepsT 32 w (by decide +kernel)).mono fun e w' => ?_
  rw [steps_eq, steps_len]
  rintro ⟨A, cp, he, ho, hb⟩
  exact ⟨A, cp, he, own_rd ho, hb⟩

def sortsT : ByteArray := ⟨#[110, 111, 116, 104, 105, 110, 103, 32, 114, 111, 111, 116, 32, 101, 112, 111, 99, 104, 32, 112, 104, 97, 115, 101, 32, 115, 101, 113, 32, 97, 114, 103, 115, 32, 103, 117, 97, 114, 100, 32, 105, 110, 32, 109, 97, 105, 108, 32, 116, 97, 103, 32, 119, 111, 114, 100]⟩
def sortsL : List ByteArray := [⟨#[110, 111, 116, 104, 105, 110, 103]⟩, ⟨#[114, 111, 111, 116]⟩, ⟨#[101, 112, 111, 99, 104]⟩, ⟨#[112, 104, 97, 115, 101]⟩, ⟨#[115, 101, 113]⟩, ⟨#[97, 114, 103, 115]⟩, ⟨#[103, 117, 97, 114, 100]⟩, ⟨#[105, 110]⟩, ⟨#[109, 97, 105, 108]⟩, ⟨#[116, 97, 103]⟩, ⟨#[119, 111, 114, 100]⟩]
theorem sorts_len : sortsL.length = 11 := by decide +kernel
theorem sorts_eq : splitB sortsT 32 = sortsL := by decide +kernel
theorem sorts_all : ∀ k, (sortsL.getD k ⟨#[]⟩).size ≤ 10 := by
  intro k
  by_cases h : k < 11
  · have : ∀ k : Fin 11, (sortsL.getD (k : Nat) ⟨#[]⟩).size ≤ 10 := by decide +kernel
    exact this ⟨k, h⟩
  · rw [List.getD, List.getElem?_eq_none (by rw [sorts_len]; omega)]; decide
theorem sorts_split (w : World) : Calls Tryz.prog 49 #[.string ⟨#[110, 111, 116, 104, 105, 110, 103, 32, 114, 111, 111, 116, 32, 101, 112, 111, 99, 104, 32, 112, 104, 97, 115, 101, 32, 115, 101, 113, 32, 97, 114, 103, 115, 32, 103, 117, 97, 114, 100, 32, 105, 110, 32, 109, 97, 105, 108, 32, 116, 97, 103, 32, 119, 111, 114, 100]⟩, .int .u8 32] w fun e w' => ∃ A cp, e = .returned (.slice A 11 cp) ∧ Rd w' A (rows sortsL) ∧ Below w.heap.size w w' := by
  refine (Split_any sortsT 32 w (by decide +kernel)).mono fun e w' => ?_
  rw [sorts_eq, sorts_len]
  rintro ⟨A, cp, he, ho, hb⟩
  exact ⟨A, cp, he, own_rd ho, hb⟩

def codeS (e : Int) : ByteArray := if 0 ≤ e ∧ e < 18 then codesL.getD e.toNat ⟨#[]⟩ else ⟨#[101, 114, 114, 111, 114]⟩
theorem codeS_size (e : Int) : (codeS e).size ≤ 10 := by
  unfold codeS
  split
  · exact codes_all _
  · decide
theorem codeS_in (k : Nat) (h : k < 18) : codeS (k : Int) = codesL.getD k ⟨#[]⟩ := by
  unfold codeS; rw [if_pos (by omega)]; rfl
theorem codeS_out (e : Int) (h : e < 0 ∨ 18 ≤ e) : codeS e = ⟨#[101, 114, 114, 111, 114]⟩ := by
  unfold codeS; rw [if_neg (by omega)]

set_option maxHeartbeats 4000000 in
set_option maxRecDepth 100000 in
theorem rcodeS_any (e : Int) (w : World) : Calls Tryz.prog 73 #[.int .i64 e] w fun er w' => er = .returned (.string (codeS e)) ∧ Below w.heap.size w w' := by
  have HSP := Lib.hid (codes_split w)
  by_cases h0 : e < 0 ∨ 18 ≤ e
  · have HV := Lib.hid (codeS_out e h0)
    generalize codeS e = R at *
    rcases h0 with h0 | h0
    all_goals
      go_enter Tryz.func73, Tryz.ntmps73
      go_wp2_with fail
      refine HSP.out.mono ?_
      rintro er w1 ⟨A, cp, rfl, hr, hb⟩
      go_wp2
      go_ret
      exact ⟨by rw [HV.out]; rfl, hb⟩
  · obtain ⟨k, rfl⟩ := Int.eq_ofNat_of_zero_le (show 0 ≤ e by omega)
    have hk : k < 18 := by omega
    have HV := Lib.hid (codeS_in k hk)
    generalize codeS (k : Int) = R at *
    have q0 : (0 : Int) ≤ (k : Int) := by omega
    have q1 : (k : Int) < 18 := by omega
    clear h0
    go_enter Tryz.func73, Tryz.ntmps73
    go_wp2_with fail
    refine HSP.out.mono ?_
    rintro er w1 ⟨A, cp, rfl, hr, hb⟩
    have hr1 := rd_str hr (k := k) (by rw [codes_len]; exact hk)
    obtain ⟨b, o, rfl, hbl, hc⟩ := hr1
    generalize codesL.getD k ⟨#[]⟩ = x at *
    clear hr
    go_wp2
    go_ret
    exact ⟨by rw [HV.out]; rfl, hb⟩

def stepS (e : Int) : ByteArray := if 0 ≤ e ∧ e < 39 then stepsL.getD e.toNat ⟨#[]⟩ else ⟨#[110, 111, 119, 104, 101, 114, 101]⟩
theorem stepS_size (e : Int) : (stepS e).size ≤ 10 := by
  unfold stepS
  split
  · exact steps_all _
  · decide
theorem stepS_in (k : Nat) (h : k < 39) : stepS (k : Int) = stepsL.getD k ⟨#[]⟩ := by
  unfold stepS; rw [if_pos (by omega)]; rfl
theorem stepS_out (e : Int) (h : e < 0 ∨ 39 ≤ e) : stepS e = ⟨#[110, 111, 119, 104, 101, 114, 101]⟩ := by
  unfold stepS; rw [if_neg (by omega)]

set_option maxHeartbeats 4000000 in
set_option maxRecDepth 100000 in
theorem rstepS_any (e : Int) (w : World) : Calls Tryz.prog 36 #[.int .i64 e] w fun er w' => er = .returned (.string (stepS e)) ∧ Below w.heap.size w w' := by
  have HSP := Lib.hid (steps_split w)
  by_cases h0 : e < 0 ∨ 39 ≤ e
  · have HV := Lib.hid (stepS_out e h0)
    generalize stepS e = R at *
    rcases h0 with h0 | h0
    all_goals
      go_enter Tryz.func36, Tryz.ntmps36
      go_wp2_with fail
      refine HSP.out.mono ?_
      rintro er w1 ⟨A, cp, rfl, hr, hb⟩
      go_wp2
      go_ret
      exact ⟨by rw [HV.out]; rfl, hb⟩
  · obtain ⟨k, rfl⟩ := Int.eq_ofNat_of_zero_le (show 0 ≤ e by omega)
    have hk : k < 39 := by omega
    have HV := Lib.hid (stepS_in k hk)
    generalize stepS (k : Int) = R at *
    have q0 : (0 : Int) ≤ (k : Int) := by omega
    have q1 : (k : Int) < 39 := by omega
    clear h0
    go_enter Tryz.func36, Tryz.ntmps36
    go_wp2_with fail
    refine HSP.out.mono ?_
    rintro er w1 ⟨A, cp, rfl, hr, hb⟩
    have hr1 := rd_str hr (k := k) (by rw [steps_len]; exact hk)
    obtain ⟨b, o, rfl, hbl, hc⟩ := hr1
    generalize stepsL.getD k ⟨#[]⟩ = x at *
    clear hr
    go_wp2
    go_ret
    exact ⟨by rw [HV.out]; rfl, hb⟩

end Go.Proofs.YtalkllfgedacoaaGreatDoor

namespace Go.Proofs.YtalkllfgedacoaaGreatDoor
open Go.RowKit Go.Sort

theorem tab_cell (w : World) (T : TypeId) (L : List ByteArray) (k : Nat) (hk : k < L.length) : (w.alloc (.cells (L.map Value.string).toArray T)).cell? ⟨w.heap.size, k, none⟩ = some (.string (L.getD k ⟨#[]⟩)) :=
  (Blk.new w T (L.map .string)).cell (i := k) (v := .string (L.getD k ⟨#[]⟩)) (by rw [List.getElem?_map, List.getD, List.getElem?_eq_getElem hk]; rfl)

set_option maxHeartbeats 4000000 in
set_option maxRecDepth 100000 in
theorem codeS_any (e : Int) (w : World) : Calls Tryz.prog 72 #[.int .i64 e] w fun er w' => er = .returned (.string (codeS e)) ∧ Below w.heap.size w w' := by
  have HC := Lib.hid (fun k hk => tab_cell w 169 codesL k hk)
  have HB := Lib.hid ((Below.refl w.heap.size w).alloc (Nat.le_refl _) (.cells (codesL.map Value.string).toArray 169))
  have hsz : w.heap.size < (w.alloc (.cells (codesL.map Value.string).toArray 169)).heap.size := by rw [World.size_alloc]; exact Nat.lt_succ_self _
  have HSZ := Lib.hid hsz
  clear hsz
  go_enter Tryz.func72, Tryz.ntmps72
  go_upto_region 1 with (fail)
  refine wp_region_lit ?_
  refine Great.wpList_readTo rfl (some 4) rfl (.agg (codesL.map Value.string).toArray) (by kernel_rfl) ?_
  refine Great.wpList_allocTo rfl (some 3) rfl (.pointer (some ⟨w.heap.size, 0, none⟩)) (.cells (List.replicate 18 (Value.string ⟨#[]⟩)).toArray 169) (by kernel_rfl) ?_
  refine wpList_store_row rfl 169 (.tmp 3) (.tmp 4) rfl w.heap.size (codesL.map Value.string).toArray rfl rfl 169 (List.replicate 18 (Value.string ⟨#[]⟩)).toArray (heap_alloc_last w _) (by kernel_rfl) (by kernel_rfl) (by kernel_rfl) ?_
  rw [World.setRow_alloc_new]
  generalize (w.alloc (.cells (codesL.map Value.string).toArray 169)) = W at *
  generalize (Value.agg (codesL.map Value.string).toArray) = g4 at *
  have hl := HSZ.out
  by_cases h0 : e < 0
  · have HV := Lib.hid (codeS_out e (.inl h0))
    go_wp2
    go_ret
    exact ⟨by rw [HV.out]; rfl, HB.out⟩
  · by_cases h1 : 18 ≤ e
    · have HV := Lib.hid (codeS_out e (.inr h1))
      go_wp2
      go_ret
      exact ⟨by rw [HV.out]; rfl, HB.out⟩
    · obtain ⟨k, rfl⟩ := Int.eq_ofNat_of_zero_le (show 0 ≤ e by omega)
      have hk : k < 18 := by omega
      have HV := Lib.hid (codeS_in k hk)
      have hx := HC.out k (by rw [codes_len]; exact hk)
      generalize codesL.getD k ⟨#[]⟩ = x at *
      have q0 : (0 : Int) ≤ (k : Int) := by omega
      have q1 : (k : Int) < 18 := by omega
      go_wp2
      go_ret
      exact ⟨by rw [HV.out]; rfl, HB.out⟩

end Go.Proofs.YtalkllfgedacoaaGreatDoor

namespace Go.Proofs.YtalkllfgedacoaaGreatDoor
open Go.RowKit Go.Sort Go.Lib

/-- The one cell of the library's table that is read for base 16. -/
def Tz16 (w : World) : Prop := 8 < w.heap.size ∧ w.cell? ⟨8, 15, none⟩ = some (.int .u8 4)
theorem Tz16.below {w w' : World} (h : Tz16 w) (hb : Below w.heap.size w w') : Tz16 w' := ⟨Nat.lt_of_lt_of_le h.1 hb.size, by rw [hb.cell (p := ⟨8, 15, none⟩) h.1]; exact h.2⟩

def hexd (d : Nat) : UInt8 := if d < 10 then UInt8.ofNat (48 + d) else UInt8.ofNat (87 + d)
def hexDigits (u : Nat) : List UInt8 := if _h : u < 16 then [hexd u] else hexDigits (u / 16) ++ [hexd (u % 16)]
  termination_by u
  decreasing_by omega
def hexS (u : Nat) : ByteArray := ⟨(hexDigits u).toArray⟩

set_option maxHeartbeats 1000000 in
theorem isPow16 (w : World) : Calls Tryz.prog 168 #[.int .i64 16] w fun e w' => e = .returned (.bool true) ∧ w = w' := by
  go_enter Tryz.func168, Tryz.ntmps168
  go_wp2
  go_ret
  exact ⟨rfl, rfl⟩

set_option maxHeartbeats 1000000 in
theorem tz16_64 (w : World) (h : Tz16 w) : Calls Tryz.prog 184 #[.int .u64 16] w fun e w' => e = .returned (.int .i64 4) ∧ w = w' := by
  have hc := h.2
  have b1 : bits BinOp.and IntKind.u64 16 (IntKind.u64.wrap (-16)) = 16 := by decide +kernel
  have w1 : IntKind.u64.wrap (16 * 285870213051353865) = 4573923408821661840 := by decide +kernel
  go_enter Tryz.func184, Tryz.ntmps184
  go_wp2
  go_ret
  exact ⟨rfl, rfl⟩

set_option maxHeartbeats 1000000 in
theorem tz16 (w : World) (h : Tz16 w) : Calls Tryz.prog 169 #[.int .u64 16] w fun e w' => e = .returned (.int .i64 4) ∧ w = w' := by
  go_enter Tryz.func169, Tryz.ntmps169
  go_wp2_with (first | (go_at_call 184; refine (tz16_64 _ h).mono ?_; rintro e w' ⟨rfl, rfl⟩))
  go_ret
  exact ⟨rfl, rfl⟩

theorem hexd_at (d : Nat) (h : d < 16) : (⟨#[48, 49, 50, 51, 52, 53, 54, 55, 56, 57, 97, 98, 99, 100, 101, 102, 103, 104, 105, 106, 107, 108, 109, 110, 111, 112, 113, 114, 115, 116, 117, 118, 119, 120, 121, 122]⟩ : ByteArray).data[d]? = some (hexd d) := by
  have : ∀ d : Fin 16, (⟨#[48, 49, 50, 51, 52, 53, 54, 55, 56, 57, 97, 98, 99, 100, 101, 102, 103, 104, 105, 106, 107, 108, 109, 110, 111, 112, 113, 114, 115, 116, 117, 118, 119, 120, 121, 122]⟩ : ByteArray).data[(d : Nat)]? = some (hexd d) := by decide +kernel
  exact this ⟨d, h⟩

theorem hexd_get (d : Nat) (h : d < 16) (h' : d < (⟨#[48, 49, 50, 51, 52, 53, 54, 55, 56, 57, 97, 98, 99, 100, 101, 102, 103, 104, 105, 106, 107, 108, 109, 110, 111, 112, 113, 114, 115, 116, 117, 118, 119, 120, 121, 122]⟩ : ByteArray).size) : (⟨#[48, 49, 50, 51, 52, 53, 54, 55, 56, 57, 97, 98, 99, 100, 101, 102, 103, 104, 105, 106, 107, 108, 109, 110, 111, 112, 113, 114, 115, 116, 117, 118, 119, 120, 121, 122]⟩ : ByteArray)[d] = hexd d := by
  have h1 := hexd_at d h
  obtain ⟨h2, h3⟩ := Array.getElem?_eq_some_iff.1 h1
  exact h3

theorem and15 (u : Nat) (h : u < 18446744073709551616) : bits BinOp.and IntKind.u64 (u : Int) 15 = ((u % 16 : Nat) : Int) := by
  have h1 := bits_and_u64_nat u 15 h (by decide)
  have h2 : u &&& 15 = u % 16 := by
    have := Nat.and_two_pow_sub_one_eq_mod u 4
    simpa using this
  rw [h2] at h1
  exact h1

/-- The digits of u, ahead of those that are there. -/
theorem hex_step {u : Nat} (h : 16 ≤ u) : hexDigits u = hexDigits (u / 16) ++ [hexd (u % 16)] := by
  rw [hexDigits, dif_neg (by omega)]
theorem hex_last {u : Nat} (h : u < 16) : hexDigits u = [hexd u] := by
  rw [hexDigits, dif_pos h]
theorem hex_length : ∀ (n u : Nat), u < 16 ^ (n + 1) → (hexDigits u).length ≤ n + 1
  | 0, u, h => by rw [hex_last (by simpa using h)]; simp
  | n + 1, u, h => by
    by_cases h16 : u < 16
    · rw [hex_last h16]; simp
    · rw [hex_step (by omega)]
      have := hex_length n (u / 16) (by rw [Nat.div_lt_iff_lt_mul (by decide)]; rw [Nat.pow_succ] at h; exact h)
      simp; omega

def u8s (l : List UInt8) : List Value := l.map fun b => Value.int .u8 (b.toNat : Int)

theorem drop_set_one {l : List Value} {i : Nat} (h : i < l.length) (v : Value) : (l.set i v).drop i = v :: l.drop (i + 1) := by
  rw [List.drop_eq_getElem_cons (by simpa using h)]
  simp [List.drop_set_of_lt]

theorem zero65 : Tryz.zeroCells235 = (List.replicate 65 (Value.int .u8 0)).toArray := by kernel_rfl

set_option maxHeartbeats 8000000 in
set_option maxRecDepth 100000 in
theorem fmtBits16 (u : Nat) (hu : u < 18446744073709551616) (w : World) (ht : Tz16 w) :
    Calls Tryz.prog 150 #[.slice none 0 0, .int .u64 u, .int .i64 16, .bool false, .bool false] w fun e w' => e = .returned (.tuple #[.slice none 0 0, .string (hexS u)]) ∧ Below w.heap.size w w' := by
  have hlen := hex_length 15 u (by simpa using hu)
  have HT := Lib.hid ht
  have HU : RowKit.Hid (hexS u = ⟨(hexDigits u).toArray⟩) := Lib.hid rfl
  generalize hd : hexDigits u = D at *
  have HD := Lib.hid hd
  have HLN := Lib.hid hlen
  clear hd hlen
  have HB0 := Lib.hid (show Blk (w.alloc (.cells Tryz.zeroCells235 235)) w.heap.size 235 (List.replicate 65 (Value.int .u8 0)) from by rw [zero65]; exact Blk.new w _ _)
  have HW0 := Lib.hid ((Below.refl w.heap.size w).alloc (Nat.le_refl _) (.cells Tryz.zeroCells235 235))
  go_enter Tryz.func150, Tryz.ntmps150
  go_wp2_with (first | (go_at_call 168; refine (isPow16 _).mono ?_; rintro e w2 ⟨rfl, rfl⟩) | (go_at_call 169; refine (tz16 _ (HT.out.below ((Below.refl _ _).alloc (Nat.le_refl _) _))).mono ?_; rintro e w3 ⟨rfl, rfl⟩))
  generalize hg : w.heap.size = gb at *
  have HGB := Lib.hid hg
  generalize w.alloc (.cells Tryz.zeroCells235 235) = w1 at *
  clear hg
  go_loopg [1, 13] u (fun g uv i wr => ∃ (v k : Nat) (ds : List UInt8) (cs : List Value), g = v ∧ v < 18446744073709551616 ∧ uv = .int .u64 v ∧ i = .int .i64 k ∧ D = hexDigits v ++ ds ∧ k + ds.length = 65 ∧ cs.length = 65 ∧ cs.drop k = u8s ds ∧ Blk wr gb 235 cs ∧ Below gb w wr)
  case atStart => exact ⟨u, 65, [], _, rfl, hu, rfl, rfl, by rw [HD.out]; simp, rfl, by simp, by simp [u8s], HB0.out, HW0.out⟩
  case round =>
    obtain ⟨v, k, ds, cs, hgv, hv, rfl, rfl, hD, hkd, hcl, hcd, hblk, hb⟩ := hrel
    have HG := Lib.hid hgv
    have HDD := Lib.hid hD
    have HCL := Lib.hid hcl
    have HCD := Lib.hid hcd
    have HKD := Lib.hid hkd
    have HBK := Lib.hid hblk
    have HB := Lib.hid hb
    have hk1 : 49 ≤ k := by
      have h1 := HLN.out; rw [hD, List.length_append] at h1; omega
    have hk2 : k ≤ 65 := by omega
    clear hgv hD hcl hcd hblk hb hkd
    have h65 : k - 1 < cs.length := by rw [HCL.out]; omega
    have hcell := HBK.out.cell (i := k - 1) (v := cs[k - 1]) (List.getElem?_eq_getElem h65)
    have hfz := HBK.out.frozen (k - 1)
    have w1' : IntKind.i64.wrap ((k : Int) - 1) = ((k - 1 : Nat) : Int) := by rw [show (k : Int) - 1 = ((k - 1 : Nat) : Int) by omega]; exact IntWalk.i64_in _ (by omega)
    have q1 : (0 : Int) ≤ ((k - 1 : Nat) : Int) := by omega
    have q2 : ((k - 1 : Nat) : Int) < 65 := by omega
    by_cases h16 : 16 ≤ v
    · have t0 : ((16 : Int) ≤ (v : Int)) := by omega
      have a1 := and15 v hv
      have hx := hexd_at (v % 16) (by omega)
      have q3 : (0 : Int) ≤ ((v % 16 : Nat) : Int) := by omega
      have q4 : ((v % 16 : Nat) : Int) < 36 := by omega
      clear hx
      have HX := Lib.hid (hexd_get (v % 16) (by omega))
      go_wp2
      go_roundg (v / 16)
      case measure => rw [HG.out]; omega
      case rel =>
        refine ⟨v / 16, k - 1, hexd (v % 16) :: ds, cs.set (k - 1) _, rfl, by omega, by simp, rfl, by rw [HDD.out, hex_step h16]; simp, by have := HKD.out; simp; omega, by rw [List.length_set]; exact HCL.out, ?_, HBK.out.set_ _ _, HB.out.setCell (p := ⟨gb, k - 1, none⟩) (Nat.le_refl _) _⟩
        rw [drop_set_one h65, show k - 1 + 1 = k by omega, HCD.out, HX.out (Nat.lt_of_lt_of_le (Nat.mod_lt v (by decide : 0 < 16)) (by decide))]
        rfl
    · have t0 : ¬ ((16 : Int) ≤ (v : Int)) := by omega
      have HX := Lib.hid (hexd_get v (by omega))
      have q3 : (0 : Int) ≤ (v : Int) := by omega
      have q4 : (v : Int) < 36 := by omega
      have hal : Tryz.prog.arrayLen 235 = 65 := by kernel_rfl
      have hsl : ∀ W, (Instr.sliceAt 235 (.pointer (some ⟨gb, 0, none⟩)) (some (.int .i64 ((k - 1 : Nat) : Int))) none none).run Tryz.prog W = .ok (.slice (some ⟨gb, k - 1, none⟩) (65 - (k - 1)) (65 - (k - 1))) W := fun W => by
        rw [run_sliceAt_array_l W 235 ⟨gb, 0, none⟩ (by simp [Program.arrayLen, Program.elem, Tryz.underlying235]) .i64 ((k - 1 : Nat) : Int) (by omega) (by rw [hal]; omega)]
        rw [hal]
        go_simp
        omega
      clear hal
      have hfin := HBK.out.set_ (k - 1) (.int .u8 ((hexd v).toNat : Int))
      have hrest := drop_set_one h65 (.int .u8 ((hexd v).toNat : Int))
      rw [show k - 1 + 1 = k by omega, HCD.out] at hrest
      have hDl : D.length = 65 - (k - 1) := by have := HKD.out; rw [HDD.out, hex_last (by omega)]; simp; omega
      have hcv : (convert 114 9 (.slice (some ⟨gb, k - 1, none⟩) (65 - (k - 1)) (65 - (k - 1)))).run Tryz.prog (wr.setCell ⟨gb, k - 1, none⟩ (.int .u8 ((hexd v).toNat : Int))) = .ok (.string ⟨D.toArray⟩) (wr.setCell ⟨gb, k - 1, none⟩ (.int .u8 ((hexd v).toNat : Int))) := by
        have h := run_convert_bytes_back (P := Tryz.prog) (wr.setCell ⟨gb, k - 1, none⟩ (.int .u8 ((hexd v).toNat : Int))) 114 9 5 ⟨gb, k - 1, none⟩ (65 - (k - 1)) D Tryz.underlying114 Tryz.underlying5 Tryz.underlying9 (fun j hj => by
          have e1 : (Addr.add ⟨gb, k - 1, none⟩ j) = ⟨gb, k - 1 + j, none⟩ := Lib.add_plain _ _ _
          rw [e1]
          refine hfin.cell ?_
          have e2 : ((cs.set (k - 1) (.int .u8 ((hexd v).toNat : Int))).drop (k - 1))[j]? = (u8s D)[j]? := by
            rw [hrest, HDD.out, hex_last (by omega)]; rfl
          rw [List.getElem?_drop] at e2
          rw [e2]
          simp [u8s, hj])
        rw [hDl] at h
        exact h
      have HF := Lib.hid (HB.out.setCell (p := ⟨gb, k - 1, none⟩) (Nat.le_refl _) (.int .u8 ((hexd v).toNat : Int)))
      have HCV := Lib.hid hcv
      clear hcv hfin hrest hDl
      go_wp2
      rw [HX.out _, HCV.out]
      go_wp2
      go_ret2
      exact ⟨by rw [HU.out]; rfl, HF.out.mono (Nat.le_of_eq HGB.out)⟩

theorem HexU16 (u : Nat) (hu : u < 18446744073709551616) (w : World) (ht : Tz16 w) :
    Calls Tryz.prog 121 #[.int .u64 u, .int .i64 16] w fun e w' => e = .returned (.string (hexS u)) ∧ Below w.heap.size w w' := by
  have HF := Lib.hid (fmtBits16 u hu w ht)
  clear ht
  go_enter Tryz.func121, Tryz.ntmps121
  go_wp2_with (go_at_call 150; refine HF.out.mono ?_; rintro e w' ⟨rfl, hb⟩)
  go_ret
  exact ⟨rfl, hb⟩

theorem FormatUint16 (u : Nat) (hu : u < 18446744073709551616) (w : World) (ht : Tz16 w) :
    Calls Tryz.prog 76 #[.int .u64 u, .int .i64 16] w fun e w' => e = .returned (.string (hexS u)) ∧ Below w.heap.size w w' := by
  have HF := Lib.hid (HexU16 u hu w ht)
  clear ht
  go_enter Tryz.func76, Tryz.ntmps76
  go_wp2_with (go_at_call 121; refine HF.out.mono ?_; rintro e w' ⟨rfl, hb⟩)
  go_ret
  exact ⟨rfl, hb⟩

end Go.Proofs.YtalkllfgedacoaaGreatDoor

namespace Go.Proofs.YtalkllfgedacoaaGreatDoor
open Go.RowKit Go.Sort Go.Lib

theorem vhex_piece (d : Nat) (h : d < 16) : (⟨#[48, 49, 50, 51, 52, 53, 54, 55, 56, 57, 97, 98, 99, 100, 101, 102]⟩ : ByteArray).extract d (d + 1) = ⟨#[hexd d]⟩ := by
  have : ∀ d : Fin 16, (⟨#[48, 49, 50, 51, 52, 53, 54, 55, 56, 57, 97, 98, 99, 100, 101, 102]⟩ : ByteArray).extract (d : Nat) ((d : Nat) + 1) = ⟨#[hexd d]⟩ := by decide +kernel
  exact this ⟨d, h⟩
def decd (d : Nat) : UInt8 := UInt8.ofNat (48 + d)
theorem vdec_piece (d : Nat) (h : d < 10) : (⟨#[48, 49, 50, 51, 52, 53, 54, 55, 56, 57]⟩ : ByteArray).extract d (d + 1) = ⟨#[decd d]⟩ := by
  have : ∀ d : Fin 10, (⟨#[48, 49, 50, 51, 52, 53, 54, 55, 56, 57]⟩ : ByteArray).extract (d : Nat) ((d : Nat) + 1) = ⟨#[decd d]⟩ := by decide +kernel
  exact this ⟨d, h⟩
theorem dec_last {u : Nat} (h : u < 10) : Lib.decDigits u = [decd u] := by rw [Lib.decDigits, dif_pos h]; rfl
theorem dec_step {u : Nat} (h : 10 ≤ u) : Lib.decDigits u = Lib.decDigits (u / 10) ++ [decd (u % 10)] := by rw [Lib.decDigits, dif_neg (by omega)]; rfl
theorem hexS_size (u : Nat) (h : u < 18446744073709551616) : (hexS u).size ≤ 16 := by
  have h1 := hex_length 15 u (by simpa using h)
  exact h1
theorem udecS_size (u : Nat) (h : u < 18446744073709551616) : (udecS u).size ≤ 20 := by
  have h1 := Lib.nDigits_le20 u h
  rw [← Lib.decDigits_length] at h1
  exact h1

end Go.Proofs.YtalkllfgedacoaaGreatDoor
