/- The law TraceBack, walked: what was done is undone. -/
import Derived.Test.YtiioedgdhkndgaaDoorAwake27
namespace Go.Proofs.YtiioedgdhkndgaaDoor
open Go.RowKit Go.Sort

theorem redo_short : ∀ (l : List Acc) (ws : List Int), (redoS ws l).1.length ≤ ws.length
  | [], ws => by rw [redoS]; exact Nat.le_refl _
  | a :: l, ws => by
    have ih := redo_short l (ws.set a.addr.toNat a.now)
    rw [List.length_set] at ih
    rw [redoS]
    split
    · exact ih
    · exact Nat.zero_le _
theorem redo_fail : ∀ (l : List Acc) (ws : List Int), (redoS ws l).2 ≠ 0 → (redoS ws l).1 = []
  | [], ws, h => by rw [redoS] at h; exact absurd rfl h
  | a :: l, ws, h => by
    rw [redoS] at h ⊢
    split
    · rename_i hf; rw [if_pos hf] at h; exact redo_fail l _ h
    · rfl
theorem backS_append : ∀ (l1 l2 : List Acc) (x : List Int), backS x (l1 ++ l2) = if (backS x l1).2 = 0 then backS (backS x l1).1 l2 else ([], (backS x l1).2)
  | [], l2, x => by simp [backS]
  | a :: l1, l2, x => by
    rw [List.cons_append, backS, backS]
    split
    · exact backS_append l1 l2 _
    · rename_i h; simp [h]

theorem fits_back {ws : List Int} {a : Acc} (h : fitsE ws a a.old = 0) : fitsE (ws.set a.addr.toNat a.now) a a.now = 0 ∧ (ws.set a.addr.toNat a.now).set a.addr.toNat a.old = ws := by
  have hr := fits_addr h
  have hlt : a.addr.toNat < ws.length := by omega
  unfold fitsE at h ⊢
  rw [List.length_set]
  have h1 : ¬ (a.addr < 0 || (ws.length : Int) ≤ a.addr) = true := by simp; omega
  rw [if_neg h1] at h ⊢
  have hg : goodB a ws.length = true ∧ ws.getD a.addr.toNat 0 = a.old := by
    by_cases hc : (!goodB a ws.length || ws.getD a.addr.toNat 0 != a.old) = true
    · rw [if_pos hc] at h; omega
    · simp only [Bool.or_eq_true, not_or, Bool.not_eq_true, Bool.not_eq_false', bne_eq_false_iff_eq] at hc
      exact ⟨by simpa using hc.1, by simpa using hc.2⟩
  constructor
  · rw [hg.1]
    simp [List.getD, hlt]
  · rw [List.set_set]
    have h2 : ws.getD a.addr.toNat 0 = ws[a.addr.toNat] := by simp [List.getD, hlt]
    rw [← hg.2, h2]
    exact List.set_getElem_self hlt

theorem redo_back : ∀ (l : List Acc) (ws : List Int), (redoS ws l).2 = 0 → undoS (redoS ws l).1 l = (ws, 0)
  | [], ws, _ => by rw [redoS]; rfl
  | a :: l, ws, h => by
    unfold undoS
    rw [redoS] at h ⊢
    by_cases hf : fitsE ws a a.old = 0
    · rw [if_pos hf] at h ⊢
      have ih := redo_back l _ h
      unfold undoS at ih
      obtain ⟨h1, h2⟩ := fits_back hf
      rw [List.reverse_cons, backS_append, ih, if_pos rfl, backS, if_pos h1, h2, backS]
    · rw [if_neg hf] at h; exact absurd h hf

set_option maxHeartbeats 8000000 in
set_option maxRecDepth 100000 in
theorem LawBack_any (A B : Option Addr) (c d : Nat) (ws : List Int) (l : List Acc) (w : World) (hn : ws.length * 8 ≤ 140737488355328) (hlm : l.length ≤ maxLen) (hA : Rd w A (words ws)) (hB : Rd w B (accs l)) (ht : TabT w) (hz : Tz16 w) :
    Calls Tryd.prog 8 #[.slice A ws.length c, .slice B l.length d] w fun e w' => e = .returned (.bool true) ∧ Below w.heap.size w w' := by
  have HA := Lib.hid hA
  have HB := Lib.hid hB
  have HT := Lib.hid ht
  have HZ := Lib.hid hz
  have HRE := Lib.hid (Redo_any A B c d ws l w hn hlm hA hB)
  have HSH := Lib.hid (redo_short l ws)
  have HFA := Lib.hid (redo_fail l ws)
  have HBK := Lib.hid (redo_back l ws)
  have HLM := Lib.hid hlm
  have HNN := Lib.hid hn
  clear hA hB ht hz hlm hn
  generalize hm : l.length = m at *
  generalize hk : ws.length = n at *
  have HM := Lib.hid hm
  have HN := Lib.hid hk
  clear hm hk
  go_enter Tryd.func8, Tryd.ntmps8
  go_wp2_with fail
  refine HRE.out.mono ?_
  rintro e w1 hr
  obtain ⟨A1, c1, rfl, hrd1, hb1⟩ := hr
  generalize redoS ws l = r at *
  obtain ⟨r1, r2⟩ := r
  simp only at hrd1 HSH HFA HBK ⊢
  have HR1 := Lib.hid hrd1
  have HB1 := Lib.hid hb1
  have HAW := Lib.hid (awake27_any w1 (HT.out.below hb1) (HZ.out.below hb1))
  clear hrd1 hb1 HRE
  by_cases h0 : r2 = 0
  · subst h0
    have HBE := Lib.hid (HBK.out rfl)
    have hun := fun h2 => Undo_any A1 B c1 d r1 l w1 (by have := HSH.out; have := HNN.out; have := HN.out; omega) (by rw [HM.out]; exact HLM.out) HR1.out h2
    rw [HM.out, HBE.out] at hun
    have HUN := Lib.hid (hun (HB.out.below HB1.out))
    clear hun HFA HBK HAW
    generalize r1.length = n1 at *
    go_wp2_with fail
    refine HUN.out.mono ?_
    rintro e w2 hr
    obtain ⟨A2, c2, rfl, hrd2, hb2⟩ := hr
    have HB2 := Lib.hid (HB1.out.trans (hb2.mono HB1.out.size))
    have hwd := Words_any A2 A c2 c ws ws w2 (by rw [HN.out]; have := HNN.out; unfold maxLen; omega) (by rw [HN.out]; have := HNN.out; unfold maxLen; omega) hrd2 (HA.out.below HB2.out)
    rw [show (ws == ws) = true by simp] at hwd
    rw [HN.out] at hwd
    have HWD := Lib.hid hwd
    simp only
    rw [HN.out]
    clear hwd hrd2 hb2 HUN
    go_wp2_with fail
    refine HWD.out.mono ?_
    rintro e w3 ⟨rfl, hb3⟩
    have HB3 := Lib.hid (HB2.out.trans (hb3.mono HB2.out.size))
    have HAW := Lib.hid (awake27_any w3 (HT.out.below HB3.out) (HZ.out.below HB3.out))
    clear hb3
    go_wp2_with fail
    refine HAW.out.mono ?_
    rintro e w4 ⟨rfl, hb4⟩
    go_wp2
    go_ret
    exact ⟨rfl, HB3.out.trans (hb4.mono HB3.out.size)⟩
  · obtain rfl : r1 = [] := HFA.out h0
    have t0 : (r2 != 0) = true := by simpa using h0
    rw [show ([] : List Int).length = 0 from rfl]
    clear h0 HFA HBK HSH
    go_wp2_with fail
    refine HAW.out.mono ?_
    rintro e w2 ⟨rfl, hb2⟩
    go_wp2
    go_ret
    exact ⟨rfl, HB1.out.trans (hb2.mono HB1.out.size)⟩

end Go.Proofs.YtiioedgdhkndgaaDoor
