/- What the walk's own evaluation of append(nil, one text) lays: a row that is owned. -/
import Derived.Test.YtalkllfgedacoaaGreatDoorD21
import Derived.Test.YtalkllfgedacoaaGreatDoorD3
namespace Go.Proofs.YtalkllfgedacoaaGreatDoor
open Go.RowKit Go.Sort

set_option maxHeartbeats 16000000 in
set_option maxRecDepth 100000 in
theorem call24_any (A : Option Addr) (n c : Nat) (l : List ByteArray) (w : World) (hl : l.length = n) (hn : n ≤ 1048576) (hc : n ≤ c) (hR : Rd w A (rows l)) (hz : ∀ x ∈ l, x.size ≤ 1073741824) (he : ErrT w) (ht : TabT w) (hm : MLT w) :
    Calls Tryz.prog 66 #[.slice A n c] w fun e w' => CallNo l w e w' ∨ CallOk l w e w' := by
  have HRL := Lib.hid hR
  have HZ := Lib.hid hz
  have HLN := Lib.hid hl
  have HE := Lib.hid he
  have HT := Lib.hid ht
  have HM := Lib.hid hm
  have R1 := Lib.hid (Blk.new w 24 (Reqr.cells ⟨0, 0, 0, false, none, 0, 0⟩))
  have B1 := Lib.hid ((Below.refl w.heap.size w).alloc (Nat.le_refl _) (.cells (Reqr.cells ⟨0, 0, 0, false, none, 0, 0⟩).toArray 24))
  clear hR hz hl he ht hm
  by_cases hn0 : n = 0
  · subst hn0
    have HV : RowKit.Hid (callQ l = none) := Lib.hid (by unfold callQ; rw [if_pos HLN.out])
    go_enter Tryz.func66, Tryz.ntmps66
    go_wp2
    exact bodyPost_ret (v := .tuple #[reqV ⟨0, 0, 0, false, none, 0, 0⟩, .bool false]) (ret_cell2 (g := w.heap.size) (v := reqV ⟨0, 0, 0, false, none, 0, 0⟩) rfl rfl rfl (req_load R1.out)) rfl (.inl ⟨HV.out, _, rfl, B1.out⟩)
  obtain ⟨m, hm⟩ : ∃ m, n = m + 1 := ⟨n - 1, by omega⟩
  subst hm
  have HTL : RowKit.Hid (l.tail.length = m) := Lib.hid (by rw [List.length_tail, HLN.out]; rfl)
  have HZT : RowKit.Hid (∀ x ∈ l.tail, x.size ≤ 1073741824) := Lib.hid (fun x hx => HZ.out x (List.mem_of_mem_tail hx))
  obtain ⟨bb, oo, rfl, hbl, hcl⟩ := strs_cell HRL.out (fun e => by have := HLN.out; rw [e] at this; simp at this)
  have x0 := hcl 0 (l.getD 0 ⟨#[]⟩) (by rw [List.getD, List.getElem?_eq_getElem (by rw [HLN.out]; omega)]; rfl)
  rw [Nat.add_zero] at x0
  have HRT := Lib.hid (rd_tail_at HRL.out (fun e => by have := HLN.out; rw [e] at this; simp at this))
  have HCQ : RowKit.Hid (callQ l = if l.getD 0 ⟨#[]⟩ = selS then selQ l.tail else match numsQ 4294967295 l.tail with
    | none => none
    | some n => wordN (l.getD 0 ⟨#[]⟩) n) := Lib.hid (by unfold callQ; rw [if_neg (by rw [HLN.out]; omega)]; (by_cases h : l.getD 0 ⟨#[]⟩ = selS); (rw [if_pos h, if_pos h]); (rw [if_neg h, if_neg h]); (cases numsQ 4294967295 l.tail <;> rfl))
  clear hcl HZ HLN HRL
  generalize l.tail = lt at *
  generalize l.getD 0 ⟨#[]⟩ = h at *
  by_cases hs : h = selS
  · have e0 : (h.toList == [115, 101, 108, 101, 99, 116]) = true := by rw [hs]; decide +kernel
    have HVS : RowKit.Hid (callQ l = selQ lt) := Lib.hid (by rw [HCQ.out, if_pos hs])
    clear HCQ hs
    by_cases hc1 : c = 1
    · subst hc1
      obtain rfl : m = 0 := by omega
      have HCH := Lib.hid (fun W (hb : Below w.heap.size w W) => selects_any (some ⟨bb, oo, none⟩) 0 0 ([] : List ByteArray) W rfl (Nat.zero_le _) (Nat.le_refl _) (.inl rfl) (fun x hx => by cases hx) (HE.out.below hb) (HT.out.below hb) (HM.out.below hb))
      rw [← List.eq_nil_of_length_eq_zero HTL.out] at HCH
      go_enter Tryz.func66, Tryz.ntmps66
      go_wp2_with fail
      refine (HCH.out _ B1.out).mono ?_
      rintro e w2 (⟨h1, q, rfl, hb2⟩ | ⟨r, A2, c2, h1, k1, k2, k3, rfl, hrd, hab, hb2⟩)
      · have HV : RowKit.Hid (callQ l = none) := Lib.hid (by rw [HVS.out, h1])
        have R2 := Lib.hid (R1.out.below hb2 R1.out.lt)
        have B2 := Lib.hid (B1.out.trans (hb2.mono B1.out.size))
        clear hb2 x0 h1
        have z0 := R2.out.cell (i := 0) rfl
        have f0 := R2.out.frozen 0
        have z1 := R2.out.cell (i := 1) rfl
        have f1 := R2.out.frozen 1
        have z2 := R2.out.cell (i := 2) rfl
        have f2 := R2.out.frozen 2
        have z3 := R2.out.cell (i := 3) rfl
        have f3 := R2.out.frozen 3
        have z4 := R2.out.cell (i := 4) rfl
        have f4 := R2.out.frozen 4
        have hrl := R2.out.lt

        go_wp2
        obtain ⟨hB, hL⟩ := req_put R2.out q
        have hbl := B2.out.trans (hL _ (Nat.le_refl _))
        refine bodyPost_ret (v := .tuple #[reqV q, .bool false]) (ret_cell2 (g := w.heap.size) (v := reqV q) rfl rfl rfl (req_load hB)) rfl ?_
        exact .inl ⟨HV.out, _, rfl, hbl⟩
      · have HV : RowKit.Hid (callQ l = some r) := Lib.hid (by rw [HVS.out, h1])
        have R2 := Lib.hid (R1.out.below hb2 R1.out.lt)
        have B2 := Lib.hid (B1.out.trans (hb2.mono B1.out.size))
        have HRD := Lib.hid hrd
        have HAB := Lib.hid hab
        have HK := Lib.hid (And.intro k1 (And.intro k2 k3))
        have hw1 := R1.out.lt
        clear hb2 x0 h1 hrd hab k1 k2 k3
        generalize hrl : r.cs.length = rn at *
        have HRL2 := Lib.hid hrl
        clear hrl
        have z0 := R2.out.cell (i := 0) rfl
        have f0 := R2.out.frozen 0
        have z1 := R2.out.cell (i := 1) rfl
        have f1 := R2.out.frozen 1
        have z2 := R2.out.cell (i := 2) rfl
        have f2 := R2.out.frozen 2
        have z3 := R2.out.cell (i := 3) rfl
        have f3 := R2.out.frozen 3
        have z4 := R2.out.cell (i := 4) rfl
        have f4 := R2.out.frozen 4
        have hrl := R2.out.lt

        go_wp2
        obtain ⟨hB, hL⟩ := req_put R2.out ⟨3, 0, 0, r.dflt, A2, rn, c2⟩
        have hbl := B2.out.trans (hL _ (Nat.le_refl _))
        have hap : ∀ b o, A2 = some ⟨b, o, none⟩ → b ≠ w.heap.size := fun b o h => by have h1 := HAB.out b o h; omega
        have hap2 : ∀ b o, A2 = some ⟨b, o, none⟩ → w.heap.size ≤ b := fun b o h => by have h1 := HAB.out b o h; omega
        have hr := HRD.out
        refine bodyPost_ret (v := .tuple #[reqV ⟨3, 0, 0, r.dflt, A2, rn, c2⟩, .bool true]) (ret_cell2 (g := w.heap.size) (v := reqV ⟨3, 0, 0, r.dflt, A2, rn, c2⟩) rfl rfl rfl (req_load hB)) rfl ?_
        refine .inr ⟨r, A2, c2, HV.out, ?_, ((((hr.set_ hap _ _).set_ hap _ _).set_ hap _ _).set_ hap _ _).set_ hap _ _, hap2, hbl⟩
        rw [HK.out.1, HK.out.2.1, HK.out.2.2, HRL2.out]

    · have q5 : ¬ c - 1 = 0 := by omega
      have HCH := Lib.hid (fun W hb => selects_any (some ⟨bb, oo + 1, none⟩) m (c - 1) lt W HTL.out (by omega) (by omega) (HRT.out.below hb) HZT.out (HE.out.below hb) (HT.out.below hb) (HM.out.below hb))
      go_enter Tryz.func66, Tryz.ntmps66
      go_wp2_with fail
      refine (HCH.out _ B1.out).mono ?_
      rintro e w2 (⟨h1, q, rfl, hb2⟩ | ⟨r, A2, c2, h1, k1, k2, k3, rfl, hrd, hab, hb2⟩)
      · have HV : RowKit.Hid (callQ l = none) := Lib.hid (by rw [HVS.out, h1])
        have R2 := Lib.hid (R1.out.below hb2 R1.out.lt)
        have B2 := Lib.hid (B1.out.trans (hb2.mono B1.out.size))
        clear hb2 x0 h1
        have z0 := R2.out.cell (i := 0) rfl
        have f0 := R2.out.frozen 0
        have z1 := R2.out.cell (i := 1) rfl
        have f1 := R2.out.frozen 1
        have z2 := R2.out.cell (i := 2) rfl
        have f2 := R2.out.frozen 2
        have z3 := R2.out.cell (i := 3) rfl
        have f3 := R2.out.frozen 3
        have z4 := R2.out.cell (i := 4) rfl
        have f4 := R2.out.frozen 4
        have hrl := R2.out.lt

        go_wp2
        obtain ⟨hB, hL⟩ := req_put R2.out q
        have hbl := B2.out.trans (hL _ (Nat.le_refl _))
        refine bodyPost_ret (v := .tuple #[reqV q, .bool false]) (ret_cell2 (g := w.heap.size) (v := reqV q) rfl rfl rfl (req_load hB)) rfl ?_
        exact .inl ⟨HV.out, _, rfl, hbl⟩
      · have HV : RowKit.Hid (callQ l = some r) := Lib.hid (by rw [HVS.out, h1])
        have R2 := Lib.hid (R1.out.below hb2 R1.out.lt)
        have B2 := Lib.hid (B1.out.trans (hb2.mono B1.out.size))
        have HRD := Lib.hid hrd
        have HAB := Lib.hid hab
        have HK := Lib.hid (And.intro k1 (And.intro k2 k3))
        have hw1 := R1.out.lt
        clear hb2 x0 h1 hrd hab k1 k2 k3
        generalize hrl : r.cs.length = rn at *
        have HRL2 := Lib.hid hrl
        clear hrl
        have z0 := R2.out.cell (i := 0) rfl
        have f0 := R2.out.frozen 0
        have z1 := R2.out.cell (i := 1) rfl
        have f1 := R2.out.frozen 1
        have z2 := R2.out.cell (i := 2) rfl
        have f2 := R2.out.frozen 2
        have z3 := R2.out.cell (i := 3) rfl
        have f3 := R2.out.frozen 3
        have z4 := R2.out.cell (i := 4) rfl
        have f4 := R2.out.frozen 4
        have hrl := R2.out.lt

        go_wp2
        obtain ⟨hB, hL⟩ := req_put R2.out ⟨3, 0, 0, r.dflt, A2, rn, c2⟩
        have hbl := B2.out.trans (hL _ (Nat.le_refl _))
        have hap : ∀ b o, A2 = some ⟨b, o, none⟩ → b ≠ w.heap.size := fun b o h => by have h1 := HAB.out b o h; omega
        have hap2 : ∀ b o, A2 = some ⟨b, o, none⟩ → w.heap.size ≤ b := fun b o h => by have h1 := HAB.out b o h; omega
        have hr := HRD.out
        refine bodyPost_ret (v := .tuple #[reqV ⟨3, 0, 0, r.dflt, A2, rn, c2⟩, .bool true]) (ret_cell2 (g := w.heap.size) (v := reqV ⟨3, 0, 0, r.dflt, A2, rn, c2⟩) rfl rfl rfl (req_load hB)) rfl ?_
        refine .inr ⟨r, A2, c2, HV.out, ?_, ((((hr.set_ hap _ _).set_ hap _ _).set_ hap _ _).set_ hap _ _).set_ hap _ _, hap2, hbl⟩
        rw [HK.out.1, HK.out.2.1, HK.out.2.2, HRL2.out]

  · have hv := HCQ.out
    rw [if_neg hs] at hv
    exact call24_num bb oo c m l lt h w hn hc hbl x0 HTL.out HZT.out HRT.out hs hv HE.out HT.out

end Go.Proofs.YtalkllfgedacoaaGreatDoor

namespace Go.Proofs.YtalkllfgedacoaaGreatDoor
open Go.RowKit Go.Sort

theorem cut_cap (W : World) (t : TypeId) : 1 ≤ (Question.appendCap 1 0 t).cut (W.tape W.drawn (Question.appendCap 1 0 t)) ∧ (Question.appendCap 1 0 t).cut (W.tape W.drawn (Question.appendCap 1 0 t)) ≤ maxLen := by
  simp only [Question.cut, maxLen]
  have := Nat.mod_lt (W.tape W.drawn (Question.appendCap 1 0 t)) (show 0 < 2 ^ 63 - 1 by decide)
  omega

theorem own_walked {w : World} {x : ByteArray} {C : Nat} {t : TypeId} (h1 : 1 ≤ C) (h2 : C ≤ maxLen) {base : Nat} (hb : base ≤ w.heap.size) :
    ((w.alloc (.cells (#[.string x] ++ Builtin.zeroCells #[.string ⟨#[]⟩] (C - 1)) t)).drew).ownsRow base t 1 (.slice (some ⟨w.heap.size, 0, none⟩) 1 C) 1 (rows [x]) := by
  refine ⟨rfl, .inr ⟨w.heap.size, C, _, rfl, hb, heap_alloc_new w _, h1, h2, ?_, ?_⟩⟩
  · rw [Array.size_append, size_zeroCells]
    show 1 + (C - 1) * 1 = C * 1
    omega
  · rw [Array.toList_append]
    rfl

end Go.Proofs.YtalkllfgedacoaaGreatDoor
