/- A call, out of its words: the document's Call, walked. -/
import Derived.Test.YtalkllfgedacoaaGreatDoorD17
import Derived.Test.YtalkllfgedacoaaGreatDoorD14
import Derived.Test.YtalkllfgedacoaaGreatDoorD18
namespace Go.Proofs.YtalkllfgedacoaaGreatDoor
open Go.RowKit Go.Sort

theorem tab0 {h : ByteArray} {a b : Int} (h1 : ¬ h = w_takeS) : tabQ h 0 a b = none := by
  unfold tabQ
  simp [h1]
theorem tab1 {h : ByteArray} {a b : Int} (h1 : ¬ h = w_recvS) (h2 : ¬ h = w_tryrecvS) (h3 : ¬ h = w_putS) : tabQ h 1 a b = if kindQ h = 0 then none else some ⟨(kindQ h : Nat), a, 0, false, []⟩ := by
  unfold tabQ kindQ
  by_cases g1 : h = w_makeS
  · subst g1; rfl
  by_cases g2 : h = w_freeS
  · subst g2; rfl
  by_cases g3 : h = w_closeS
  · subst g3; rfl
  by_cases g4 : h = w_lenS
  · subst g4; rfl
  by_cases g5 : h = w_capS
  · subst g5; rfl
  simp [h1, h2, h3, g1, g2, g3, g4, g5]
theorem tab2 {h : ByteArray} {a b : Int} (h1 : ¬ h = w_sendS) (h2 : ¬ h = w_trysendS) (h3 : ¬ h = w_cancelS) : tabQ h 2 a b = none := by
  unfold tabQ
  simp [h1, h2, h3]

def CallNo (l : List ByteArray) (w : World) (e : Ending) (w' : World) : Prop := callQ l = none ∧ ∃ q : Reqr, e = .returned (.tuple #[reqV q, .bool false]) ∧ Below w.heap.size w w'
def CallOk (l : List ByteArray) (w : World) (e : Ending) (w' : World) : Prop := ∃ (r : Rq) (A : Option Addr) (c : Nat), callQ l = some r ∧ e = .returned (.tuple #[reqV ⟨r.kind, r.arg, r.value, r.dflt, A, r.cs.length, c⟩, .bool true]) ∧ Rd w' A (rows r.cs) ∧ (∀ b o, A = some ⟨b, o, none⟩ → w.heap.size ≤ b) ∧ Below w.heap.size w w'

set_option maxHeartbeats 16000000 in
set_option maxRecDepth 100000 in
theorem rCall_any (A : Option Addr) (n c : Nat) (l : List ByteArray) (w : World) (hl : l.length = n) (hn : n ≤ 1048576) (hc : n ≤ c) (hR : Rd w A (rows l)) (hz : ∀ x ∈ l, x.size ≤ 1073741824) :
    Calls Tryz.prog 69 #[.slice A n c] w fun e w' => CallNo l w e w' ∨ CallOk l w e w' := by
  have HRL := Lib.hid hR
  have HZ := Lib.hid hz
  have HLN := Lib.hid hl
  have R1 := Lib.hid (Blk.new w 24 (Reqr.cells ⟨0, 0, 0, false, none, 0, 0⟩))
  have B1 := Lib.hid ((Below.refl w.heap.size w).alloc (Nat.le_refl _) (.cells (Reqr.cells ⟨0, 0, 0, false, none, 0, 0⟩).toArray 24))
  clear hR hz hl
  by_cases hn0 : n = 0
  · subst hn0
    have HV : RowKit.Hid (callQ l = none) := Lib.hid (by unfold callQ; rw [if_pos HLN.out])
    go_enter Tryz.func69, Tryz.ntmps69
    go_wp2
    exact bodyPost_ret (v := .tuple #[reqV ⟨0, 0, 0, false, none, 0, 0⟩, .bool false]) (ret_cell2 (g := w.heap.size) (v := reqV ⟨0, 0, 0, false, none, 0, 0⟩) rfl rfl rfl (req_load R1.out)) rfl (.inl ⟨HV.out, _, rfl, B1.out⟩)
  obtain ⟨m, hm⟩ : ∃ m, n = m + 1 := ⟨n - 1, by omega⟩
  subst hm
  have HTL : RowKit.Hid (l.tail.length = m) := Lib.hid (by rw [List.length_tail, HLN.out]; rfl)
  have HZT : RowKit.Hid (∀ x ∈ l.tail, x.size ≤ 1073741824) := Lib.hid (fun x hx => HZ.out x (List.mem_of_mem_tail hx))
  obtain ⟨bb, oo, rfl, hbl, hcl⟩ := strs_cell HRL.out (fun e => by have := HLN.out; rw [e] at this; simp at this)
  have x0 := hcl 0 (l.getD 0 ⟨#[]⟩) (by rw [List.getD, List.getElem?_eq_getElem (by rw [HLN.out]; omega)]; rfl)
  rw [Nat.add_zero] at x0
  have HRT := Lib.hid (rd_tail_at HRL.out (fun e => by have := HLN.out; rw [e] at this; simp at this))
  have HCQ : RowKit.Hid (callQ l = if l.getD 0 ⟨#[]⟩ = selS then selQ l.tail else match numsQ 4294967295 l.tail with
    | none => none
    | some n => wordN (l.getD 0 ⟨#[]⟩) n) := Lib.hid (by unfold callQ; rw [if_neg (by rw [HLN.out]; omega)]; (by_cases h : l.getD 0 ⟨#[]⟩ = selS); (rw [if_pos h, if_pos h]); (rw [if_neg h, if_neg h]); (cases numsQ 4294967295 l.tail <;> rfl))
  clear hcl HZ HLN HRL
  generalize l.tail = lt at *
  generalize l.getD 0 ⟨#[]⟩ = h at *
  by_cases hs : h = selS
  · have e0 : (h.toList == [115, 101, 108, 101, 99, 116]) = true := by rw [hs]; decide +kernel
    have HVS : RowKit.Hid (callQ l = selQ lt) := Lib.hid (by rw [HCQ.out, if_pos hs])
    clear HCQ hs
    by_cases hc1 : c = 1
    · subst hc1
      obtain rfl : m = 0 := by omega
      have HCH := Lib.hid (fun W (hb : Below w.heap.size w W) => choice_any (some ⟨bb, oo, none⟩) 0 0 ([] : List ByteArray) W rfl (Nat.zero_le _) (.inl rfl) (fun x hx => by cases hx))
      rw [← List.eq_nil_of_length_eq_zero HTL.out] at HCH
      go_enter Tryz.func69, Tryz.ntmps69
      go_wp2_with fail
      refine (HCH.out _ B1.out).mono ?_
      rintro e w2 (⟨h1, q, rfl, hb2⟩ | ⟨r, A2, c2, h1, k1, k2, k3, rfl, hrd, hab, hb2⟩)
      · have HV : RowKit.Hid (callQ l = none) := Lib.hid (by rw [HVS.out, h1])
        have R2 := Lib.hid (R1.out.below hb2 R1.out.lt)
        have B2 := Lib.hid (B1.out.trans (hb2.mono B1.out.size))
        clear hb2 x0 h1
        have z0 := R2.out.cell (i := 0) rfl
        have f0 := R2.out.frozen 0
        have z1 := R2.out.cell (i := 1) rfl
        have f1 := R2.out.frozen 1
        have z2 := R2.out.cell (i := 2) rfl
        have f2 := R2.out.frozen 2
        have z3 := R2.out.cell (i := 3) rfl
        have f3 := R2.out.frozen 3
        have z4 := R2.out.cell (i := 4) rfl
        have f4 := R2.out.frozen 4
        have hrl := R2.out.lt

        go_wp2
        obtain ⟨hB, hL⟩ := req_put R2.out q
        have hbl := B2.out.trans (hL _ (Nat.le_refl _))
        refine bodyPost_ret (v := .tuple #[reqV q, .bool false]) (ret_cell2 (g := w.heap.size) (v := reqV q) rfl rfl rfl (req_load hB)) rfl ?_
        exact .inl ⟨HV.out, _, rfl, hbl⟩
      · have HV : RowKit.Hid (callQ l = some r) := Lib.hid (by rw [HVS.out, h1])
        have R2 := Lib.hid (R1.out.below hb2 R1.out.lt)
        have B2 := Lib.hid (B1.out.trans (hb2.mono B1.out.size))
        have HRD := Lib.hid hrd
        have HAB := Lib.hid hab
        have HK := Lib.hid (And.intro k1 (And.intro k2 k3))
        have hw1 := R1.out.lt
        clear hb2 x0 h1 hrd hab k1 k2 k3
        generalize hrl : r.cs.length = rn at *
        have HRL2 := Lib.hid hrl
        clear hrl
        have z0 := R2.out.cell (i := 0) rfl
        have f0 := R2.out.frozen 0
        have z1 := R2.out.cell (i := 1) rfl
        have f1 := R2.out.frozen 1
        have z2 := R2.out.cell (i := 2) rfl
        have f2 := R2.out.frozen 2
        have z3 := R2.out.cell (i := 3) rfl
        have f3 := R2.out.frozen 3
        have z4 := R2.out.cell (i := 4) rfl
        have f4 := R2.out.frozen 4
        have hrl := R2.out.lt

        go_wp2
        obtain ⟨hB, hL⟩ := req_put R2.out ⟨3, 0, 0, r.dflt, A2, rn, c2⟩
        have hbl := B2.out.trans (hL _ (Nat.le_refl _))
        have hap : ∀ b o, A2 = some ⟨b, o, none⟩ → b ≠ w.heap.size := fun b o h => by have h1 := HAB.out b o h; omega
        have hap2 : ∀ b o, A2 = some ⟨b, o, none⟩ → w.heap.size ≤ b := fun b o h => by have h1 := HAB.out b o h; omega
        have hr := HRD.out
        refine bodyPost_ret (v := .tuple #[reqV ⟨3, 0, 0, r.dflt, A2, rn, c2⟩, .bool true]) (ret_cell2 (g := w.heap.size) (v := reqV ⟨3, 0, 0, r.dflt, A2, rn, c2⟩) rfl rfl rfl (req_load hB)) rfl ?_
        refine .inr ⟨r, A2, c2, HV.out, ?_, ((((hr.set_ hap _ _).set_ hap _ _).set_ hap _ _).set_ hap _ _).set_ hap _ _, hap2, hbl⟩
        rw [HK.out.1, HK.out.2.1, HK.out.2.2, HRL2.out]

    · have q5 : ¬ c - 1 = 0 := by omega
      have HCH := Lib.hid (fun W hb => choice_any (some ⟨bb, oo + 1, none⟩) m (c - 1) lt W HTL.out (by omega) (HRT.out.below hb) HZT.out)
      go_enter Tryz.func69, Tryz.ntmps69
      go_wp2_with fail
      refine (HCH.out _ B1.out).mono ?_
      rintro e w2 (⟨h1, q, rfl, hb2⟩ | ⟨r, A2, c2, h1, k1, k2, k3, rfl, hrd, hab, hb2⟩)
      · have HV : RowKit.Hid (callQ l = none) := Lib.hid (by rw [HVS.out, h1])
        have R2 := Lib.hid (R1.out.below hb2 R1.out.lt)
        have B2 := Lib.hid (B1.out.trans (hb2.mono B1.out.size))
        clear hb2 x0 h1
        have z0 := R2.out.cell (i := 0) rfl
        have f0 := R2.out.frozen 0
        have z1 := R2.out.cell (i := 1) rfl
        have f1 := R2.out.frozen 1
        have z2 := R2.out.cell (i := 2) rfl
        have f2 := R2.out.frozen 2
        have z3 := R2.out.cell (i := 3) rfl
        have f3 := R2.out.frozen 3
        have z4 := R2.out.cell (i := 4) rfl
        have f4 := R2.out.frozen 4
        have hrl := R2.out.lt

        go_wp2
        obtain ⟨hB, hL⟩ := req_put R2.out q
        have hbl := B2.out.trans (hL _ (Nat.le_refl _))
        refine bodyPost_ret (v := .tuple #[reqV q, .bool false]) (ret_cell2 (g := w.heap.size) (v := reqV q) rfl rfl rfl (req_load hB)) rfl ?_
        exact .inl ⟨HV.out, _, rfl, hbl⟩
      · have HV : RowKit.Hid (callQ l = some r) := Lib.hid (by rw [HVS.out, h1])
        have R2 := Lib.hid (R1.out.below hb2 R1.out.lt)
        have B2 := Lib.hid (B1.out.trans (hb2.mono B1.out.size))
        have HRD := Lib.hid hrd
        have HAB := Lib.hid hab
        have HK := Lib.hid (And.intro k1 (And.intro k2 k3))
        have hw1 := R1.out.lt
        clear hb2 x0 h1 hrd hab k1 k2 k3
        generalize hrl : r.cs.length = rn at *
        have HRL2 := Lib.hid hrl
        clear hrl
        have z0 := R2.out.cell (i := 0) rfl
        have f0 := R2.out.frozen 0
        have z1 := R2.out.cell (i := 1) rfl
        have f1 := R2.out.frozen 1
        have z2 := R2.out.cell (i := 2) rfl
        have f2 := R2.out.frozen 2
        have z3 := R2.out.cell (i := 3) rfl
        have f3 := R2.out.frozen 3
        have z4 := R2.out.cell (i := 4) rfl
        have f4 := R2.out.frozen 4
        have hrl := R2.out.lt

        go_wp2
        obtain ⟨hB, hL⟩ := req_put R2.out ⟨3, 0, 0, r.dflt, A2, rn, c2⟩
        have hbl := B2.out.trans (hL _ (Nat.le_refl _))
        have hap : ∀ b o, A2 = some ⟨b, o, none⟩ → b ≠ w.heap.size := fun b o h => by have h1 := HAB.out b o h; omega
        have hap2 : ∀ b o, A2 = some ⟨b, o, none⟩ → w.heap.size ≤ b := fun b o h => by have h1 := HAB.out b o h; omega
        have hr := HRD.out
        refine bodyPost_ret (v := .tuple #[reqV ⟨3, 0, 0, r.dflt, A2, rn, c2⟩, .bool true]) (ret_cell2 (g := w.heap.size) (v := reqV ⟨3, 0, 0, r.dflt, A2, rn, c2⟩) rfl rfl rfl (req_load hB)) rfl ?_
        refine .inr ⟨r, A2, c2, HV.out, ?_, ((((hr.set_ hap _ _).set_ hap _ _).set_ hap _ _).set_ hap _ _).set_ hap _ _, hap2, hbl⟩
        rw [HK.out.1, HK.out.2.1, HK.out.2.2, HRL2.out]

  · have e0 := eqL (l := [115, 101, 108, 101, 99, 116]) hs (by decide +kernel)
    have HVN0 : RowKit.Hid (callQ l = match numsQ 4294967295 lt with
      | none => none
      | some n => wordN h n) := Lib.hid (by rw [HCQ.out, if_neg hs])
    clear HCQ hs
    by_cases hc1 : c = 1
    · subst hc1
      obtain rfl : m = 0 := by omega
      have HNB := Lib.hid (fun W (hb : Below w.heap.size w W) => rnumbers24_any 4294967295 (some ⟨bb, oo, none⟩) 0 0 ([] : List ByteArray) W (Nat.le_refl _) (by omega) rfl (Nat.zero_le _) (.inl rfl) (fun x hx => by cases hx))
      have HVN : RowKit.Hid (callQ l = wordN h []) := Lib.hid (by rw [HVN0.out, List.eq_nil_of_length_eq_zero HTL.out]; rfl)
      clear HVN0
      unfold NumsPost NumsNo NumsOk at HNB
      by_cases hh : h = w_takeS
      · have e_take : (h.toList == [116, 97, 107, 101]) = true := by rw [hh]; decide +kernel
        have HV : RowKit.Hid (callQ l = some ⟨9, 0, 0, false, []⟩) := Lib.hid (by rw [HVN.out, hh]; rfl)
        clear hh HVN
        go_enter Tryz.func69, Tryz.ntmps69
        go_wp2_with fail
        refine (HNB.out _ B1.out).mono ?_
        rintro e w2 (⟨h1, _⟩ | ⟨x, A, c, h1, rfl, hown, hb2⟩)
        · cases h1
        injection h1 with h1
        subst h1
        have R2 := Lib.hid (R1.out.below hb2 R1.out.lt)
        have B2 := Lib.hid (B1.out.trans (hb2.mono B1.out.size))
        have x2 := (hb2.cell (p := ⟨bb, oo, none⟩) (Nat.lt_of_lt_of_le hbl B1.out.size)).trans ((B1.out.cell (p := ⟨bb, oo, none⟩) hbl).trans x0)
        have hbl2 : bb < w2.heap.size := Nat.lt_of_lt_of_le hbl B2.out.size
        clear hb2 x0 hown

        have z0 := R2.out.cell (i := 0) rfl
        have f0 := R2.out.frozen 0
        have z1 := R2.out.cell (i := 1) rfl
        have f1 := R2.out.frozen 1
        have z2 := R2.out.cell (i := 2) rfl
        have f2 := R2.out.frozen 2
        have z3 := R2.out.cell (i := 3) rfl
        have f3 := R2.out.frozen 3
        have z4 := R2.out.cell (i := 4) rfl
        have f4 := R2.out.frozen 4
        have hrl := R2.out.lt
        go_wp2
        obtain ⟨hB, hL⟩ := req_put R2.out ⟨9, 0, 0, false, none, 0, 0⟩
        have hbl := B2.out.trans (hL _ (Nat.le_refl _))
        refine bodyPost_ret (v := .tuple #[reqV ⟨9, 0, 0, false, none, 0, 0⟩, .bool true]) (ret_cell2 (g := w.heap.size) (v := reqV ⟨9, 0, 0, false, none, 0, 0⟩) rfl rfl rfl (req_load hB)) rfl ?_
        exact .inr ⟨⟨9, 0, 0, false, []⟩, none, 0, HV.out, rfl, .inl rfl, (fun b o h => by cases h), hbl⟩

      · have e_take := eqL (l := [116, 97, 107, 101]) hh (by decide +kernel)
        have HV : RowKit.Hid (callQ l = none) := Lib.hid (by rw [HVN.out]; unfold wordN; rw [if_neg (by simp)]; exact tab0 hh)
        clear hh HVN
        by_cases hp : h = w_putS
        · have e_put : (h.toList == [112, 117, 116]) = true := by rw [hp]; decide +kernel
          clear hp
          go_enter Tryz.func69, Tryz.ntmps69
          go_wp2_with fail
          refine (HNB.out _ B1.out).mono ?_
          rintro e w2 (⟨h1, _⟩ | ⟨x, A, c, h1, rfl, hown, hb2⟩)
          · cases h1
          injection h1 with h1
          subst h1
          have R2 := Lib.hid (R1.out.below hb2 R1.out.lt)
          have B2 := Lib.hid (B1.out.trans (hb2.mono B1.out.size))
          have x2 := (hb2.cell (p := ⟨bb, oo, none⟩) (Nat.lt_of_lt_of_le hbl B1.out.size)).trans ((B1.out.cell (p := ⟨bb, oo, none⟩) hbl).trans x0)
          have hbl2 : bb < w2.heap.size := Nat.lt_of_lt_of_le hbl B2.out.size
          clear hb2 x0 hown

          have z0 := R2.out.cell (i := 0) rfl
          have f0 := R2.out.frozen 0
          have z1 := R2.out.cell (i := 1) rfl
          have f1 := R2.out.frozen 1
          have z2 := R2.out.cell (i := 2) rfl
          have f2 := R2.out.frozen 2
          have z3 := R2.out.cell (i := 3) rfl
          have f3 := R2.out.frozen 3
          have z4 := R2.out.cell (i := 4) rfl
          have f4 := R2.out.frozen 4
          have hrl := R2.out.lt
          go_wp2
          obtain ⟨hB, hL⟩ := req_put R2.out ⟨0, 0, 0, false, none, 0, 0⟩
          have hbl := B2.out.trans (hL _ (Nat.le_refl _))
          refine bodyPost_ret (v := .tuple #[reqV ⟨0, 0, 0, false, none, 0, 0⟩, .bool false]) (ret_cell2 (g := w.heap.size) (v := reqV ⟨0, 0, 0, false, none, 0, 0⟩) rfl rfl rfl (req_load hB)) rfl ?_
          exact .inl ⟨HV.out, _, rfl, hbl⟩

        · have e_put := eqL (l := [112, 117, 116]) hp (by decide +kernel)
          clear hp
          go_enter Tryz.func69, Tryz.ntmps69
          go_wp2_with fail
          refine (HNB.out _ B1.out).mono ?_
          rintro e w2 (⟨h1, _⟩ | ⟨x, A, c, h1, rfl, hown, hb2⟩)
          · cases h1
          injection h1 with h1
          subst h1
          have R2 := Lib.hid (R1.out.below hb2 R1.out.lt)
          have B2 := Lib.hid (B1.out.trans (hb2.mono B1.out.size))
          have x2 := (hb2.cell (p := ⟨bb, oo, none⟩) (Nat.lt_of_lt_of_le hbl B1.out.size)).trans ((B1.out.cell (p := ⟨bb, oo, none⟩) hbl).trans x0)
          have hbl2 : bb < w2.heap.size := Nat.lt_of_lt_of_le hbl B2.out.size
          clear hb2 x0 hown

          have z0 := R2.out.cell (i := 0) rfl
          have f0 := R2.out.frozen 0
          have z1 := R2.out.cell (i := 1) rfl
          have f1 := R2.out.frozen 1
          have z2 := R2.out.cell (i := 2) rfl
          have f2 := R2.out.frozen 2
          have z3 := R2.out.cell (i := 3) rfl
          have f3 := R2.out.frozen 3
          have z4 := R2.out.cell (i := 4) rfl
          have f4 := R2.out.frozen 4
          have hrl := R2.out.lt
          go_wp2
          obtain ⟨hB, hL⟩ := req_put R2.out ⟨0, 0, 0, false, none, 0, 0⟩
          have hbl := B2.out.trans (hL _ (Nat.le_refl _))
          refine bodyPost_ret (v := .tuple #[reqV ⟨0, 0, 0, false, none, 0, 0⟩, .bool false]) (ret_cell2 (g := w.heap.size) (v := reqV ⟨0, 0, 0, false, none, 0, 0⟩) rfl rfl rfl (req_load hB)) rfl ?_
          exact .inl ⟨HV.out, _, rfl, hbl⟩

    · have q5 : ¬ c - 1 = 0 := by omega
      have HNB := Lib.hid (fun W hb => rnumbers24_any 4294967295 (some ⟨bb, oo + 1, none⟩) m (c - 1) lt W (Nat.le_refl _) (by omega) HTL.out (by omega) (HRT.out.below hb) (fun x hx => by have := HZT.out x hx; omega))
      cases hq : numsQ 4294967295 lt with
      | none =>
        have HV : RowKit.Hid (callQ l = none) := Lib.hid (by rw [HVN0.out, hq])
        unfold NumsPost NumsNo NumsOk at HNB
        rw [hq] at HNB
        clear hq
        go_enter Tryz.func69, Tryz.ntmps69
        go_wp2_with fail
        refine (HNB.out _ B1.out).mono ?_
        rintro e w2 (⟨_, rfl, hb2⟩ | ⟨x, A, c, h1, _⟩)
        · have R2 := Lib.hid (R1.out.below hb2 R1.out.lt)
          have B2 := Lib.hid (B1.out.trans (hb2.mono B1.out.size))
          clear hb2 x0
          have z0 := R2.out.cell (i := 0) rfl
          have f0 := R2.out.frozen 0
          have z1 := R2.out.cell (i := 1) rfl
          have f1 := R2.out.frozen 1
          have z2 := R2.out.cell (i := 2) rfl
          have f2 := R2.out.frozen 2
          have z3 := R2.out.cell (i := 3) rfl
          have f3 := R2.out.frozen 3
          have z4 := R2.out.cell (i := 4) rfl
          have f4 := R2.out.frozen 4
          have hrl := R2.out.lt
          go_wp2
          obtain ⟨hB, hL⟩ := req_put R2.out ⟨0, 0, 0, false, none, 0, 0⟩
          have hbl := B2.out.trans (hL _ (Nat.le_refl _))
          refine bodyPost_ret (v := .tuple #[reqV ⟨0, 0, 0, false, none, 0, 0⟩, .bool false]) (ret_cell2 (g := w.heap.size) (v := reqV ⟨0, 0, 0, false, none, 0, 0⟩) rfl rfl rfl (req_load hB)) rfl ?_
          exact .inl ⟨HV.out, _, rfl, hbl⟩

        · cases h1
      | some x =>
        have hxl : x.length = m := (numsQ_len hq).trans HTL.out
        have HXL := Lib.hid hxl
        have HLE := Lib.hid (numsQ_le hq)
        have HVN : RowKit.Hid (callQ l = wordN h x) := Lib.hid (by rw [HVN0.out, hq])
        unfold NumsPost NumsNo NumsOk at HNB
        rw [hq] at HNB
        clear hq hxl HVN0
        go_enter Tryz.func69, Tryz.ntmps69
        go_wp2_with fail
        refine (HNB.out _ B1.out).mono ?_
        rintro e w2 (⟨h1, _⟩ | ⟨x, A, c, h1, rfl, hown, hb2⟩)
        · cases h1
        injection h1 with h1
        subst h1
        rw [HXL.out] at hown ⊢
        have R2 := Lib.hid (R1.out.below hb2 R1.out.lt)
        have B2 := Lib.hid (B1.out.trans (hb2.mono B1.out.size))
        have x2 := (hb2.cell (p := ⟨bb, oo, none⟩) (Nat.lt_of_lt_of_le hbl B1.out.size)).trans ((B1.out.cell (p := ⟨bb, oo, none⟩) hbl).trans x0)
        have hbl2 : bb < w2.heap.size := Nat.lt_of_lt_of_le hbl B2.out.size
        clear hb2 x0
        by_cases hh : h = w_takeS
        · have e_take : (h.toList == [116, 97, 107, 101]) = true := by rw [hh]; decide +kernel
          have e_put : (h.toList == [112, 117, 116]) = false := by rw [hh]; decide +kernel
          have e_recv : (h.toList == [114, 101, 99, 118]) = false := by rw [hh]; decide +kernel
          have e_tryrecv : (h.toList == [116, 114, 121, 114, 101, 99, 118]) = false := by rw [hh]; decide +kernel
          have e_send : (h.toList == [115, 101, 110, 100]) = false := by rw [hh]; decide +kernel
          have e_trysend : (h.toList == [116, 114, 121, 115, 101, 110, 100]) = false := by rw [hh]; decide +kernel
          have e_cancel : (h.toList == [99, 97, 110, 99, 101, 108]) = false := by rw [hh]; decide +kernel
          by_cases hm0 : m = 0
          · subst hm0
            have HV : RowKit.Hid (callQ l = some ⟨9, 0, 0, false, []⟩) := Lib.hid (by rw [HVN.out]; unfold wordN; rw [HXL.out, if_neg (by omega), hh]; rfl)
            clear hh
            have z0 := R2.out.cell (i := 0) rfl
            have f0 := R2.out.frozen 0
            have z1 := R2.out.cell (i := 1) rfl
            have f1 := R2.out.frozen 1
            have z2 := R2.out.cell (i := 2) rfl
            have f2 := R2.out.frozen 2
            have z3 := R2.out.cell (i := 3) rfl
            have f3 := R2.out.frozen 3
            have z4 := R2.out.cell (i := 4) rfl
            have f4 := R2.out.frozen 4
            have hrl := R2.out.lt
            go_wp2
            obtain ⟨hB, hL⟩ := req_put R2.out ⟨9, 0, 0, false, none, 0, 0⟩
            have hbl := B2.out.trans (hL _ (Nat.le_refl _))
            refine bodyPost_ret (v := .tuple #[reqV ⟨9, 0, 0, false, none, 0, 0⟩, .bool true]) (ret_cell2 (g := w.heap.size) (v := reqV ⟨9, 0, 0, false, none, 0, 0⟩) rfl rfl rfl (req_load hB)) rfl ?_
            exact .inr ⟨⟨9, 0, 0, false, []⟩, none, 0, HV.out, rfl, .inl rfl, (fun b o h => by cases h), hbl⟩
          · obtain ⟨b2, rfl, hb2w, hb2l, hcs⟩ := nums_cell hown (by omega)
            have y0 := hcs 0 (by rw [HXL.out]; omega)
            have HCS := Lib.hid hcs
            clear hcs hown
            generalize hgn : x.getD 0 0 = n0 at *
            have HN0 := Lib.hid hgn
            clear hgn
            have q0 : ((m : Int) == 0) = false := by rw [beq_eq_false_iff_ne]; omega
            by_cases hbig : 65535 < n0
            · have q2 : (65535 : Int) < (n0 : Int) := by omega
              have HV : RowKit.Hid (callQ l = none) := Lib.hid (by rw [HVN.out]; unfold wordN; rw [HXL.out, HN0.out, if_pos (.inr ⟨by omega, by omega, by rw [hh]; decide +kernel⟩)])
              clear hh
              have z0 := R2.out.cell (i := 0) rfl
              have f0 := R2.out.frozen 0
              have z1 := R2.out.cell (i := 1) rfl
              have f1 := R2.out.frozen 1
              have z2 := R2.out.cell (i := 2) rfl
              have f2 := R2.out.frozen 2
              have z3 := R2.out.cell (i := 3) rfl
              have f3 := R2.out.frozen 3
              have z4 := R2.out.cell (i := 4) rfl
              have f4 := R2.out.frozen 4
              have hrl := R2.out.lt
              go_wp2
              obtain ⟨hB, hL⟩ := req_put R2.out ⟨0, 0, 0, false, none, 0, 0⟩
              have hbl := B2.out.trans (hL _ (Nat.le_refl _))
              refine bodyPost_ret (v := .tuple #[reqV ⟨0, 0, 0, false, none, 0, 0⟩, .bool false]) (ret_cell2 (g := w.heap.size) (v := reqV ⟨0, 0, 0, false, none, 0, 0⟩) rfl rfl rfl (req_load hB)) rfl ?_
              exact .inl ⟨HV.out, _, rfl, hbl⟩
            · have q2 : ¬ (65535 : Int) < (n0 : Int) := by omega
              by_cases hm1 : m = 1
              · subst hm1
                have HV : RowKit.Hid (callQ l = none) := Lib.hid (by rw [HVN.out]; unfold wordN; rw [HXL.out, HN0.out, if_neg (fun e => by rcases e with e | ⟨_, e, _⟩ <;> omega)]; rw [hh]; rfl)
                have hk : kindQ h = 0 := by rw [hh]; decide +kernel
                clear hh
                have HKD := Lib.hid (fun W => rKind_any h W)
                rw [hk] at HKD
                clear hk
                go_wp2_with (go_at_call 114; refine (HKD.out _).mono ?_; rintro e w3 ⟨rfl, hb3⟩; have y3 := (hb3.cell (p := ⟨b2, 0, none⟩) hb2l).trans y0; have hb3l := Nat.lt_of_lt_of_le hb2l hb3.size; have R3 := R2.out.below hb3 R2.out.lt; have r0 := R3.cell (i := 0) rfl; have t0 := R3.frozen 0; have r1 := R3.cell (i := 1) rfl; have t1 := R3.frozen 1; have r2 := R3.cell (i := 2) rfl; have t2 := R3.frozen 2; have r3 := R3.cell (i := 3) rfl; have t3 := R3.frozen 3; have r4 := R3.cell (i := 4) rfl; have t4 := R3.frozen 4; have hrl3 := R3.lt)
                have R3h := Lib.hid R3
                have B3 := Lib.hid (B2.out.trans (hb3.mono B2.out.size))
                obtain ⟨hB, hL⟩ := req_put R3h.out ⟨0, (n0 : Int), 0, false, none, 0, 0⟩
                have hbl := B3.out.trans (hL _ (Nat.le_refl _))
                refine bodyPost_ret (v := .tuple #[reqV ⟨0, (n0 : Int), 0, false, none, 0, 0⟩, .bool false]) (ret_cell2 (g := w.heap.size) (v := reqV ⟨0, (n0 : Int), 0, false, none, 0, 0⟩) rfl rfl rfl (req_load hB)) rfl ?_
                exact .inl ⟨HV.out, _, rfl, hbl⟩
              · have q1 : ((m : Int) == 1) = false := by rw [beq_eq_false_iff_ne]; omega
                by_cases hm2 : m = 2
                · subst hm2
                  have HV : RowKit.Hid (callQ l = none) := Lib.hid (by rw [HVN.out]; unfold wordN; rw [HXL.out, HN0.out, if_neg (fun e => by rcases e with e | ⟨_, e, _⟩ <;> omega)]; rw [hh]; rfl)
                  clear hh
                  have z0 := R2.out.cell (i := 0) rfl
                  have f0 := R2.out.frozen 0
                  have z1 := R2.out.cell (i := 1) rfl
                  have f1 := R2.out.frozen 1
                  have z2 := R2.out.cell (i := 2) rfl
                  have f2 := R2.out.frozen 2
                  have z3 := R2.out.cell (i := 3) rfl
                  have f3 := R2.out.frozen 3
                  have z4 := R2.out.cell (i := 4) rfl
                  have f4 := R2.out.frozen 4
                  have hrl := R2.out.lt
                  go_wp2
                  obtain ⟨hB, hL⟩ := req_put R2.out ⟨0, 0, 0, false, none, 0, 0⟩
                  have hbl := B2.out.trans (hL _ (Nat.le_refl _))
                  refine bodyPost_ret (v := .tuple #[reqV ⟨0, 0, 0, false, none, 0, 0⟩, .bool false]) (ret_cell2 (g := w.heap.size) (v := reqV ⟨0, 0, 0, false, none, 0, 0⟩) rfl rfl rfl (req_load hB)) rfl ?_
                  exact .inl ⟨HV.out, _, rfl, hbl⟩
                · have hm3 : 2 < m := by omega
                  have q3 : (2 : Int) < (m : Int) := by omega
                  have HV : RowKit.Hid (callQ l = none) := Lib.hid (by rw [HVN.out]; unfold wordN; rw [HXL.out, if_pos (.inl (by omega))])
                  clear hh
                  have z0 := R2.out.cell (i := 0) rfl
                  have f0 := R2.out.frozen 0
                  have z1 := R2.out.cell (i := 1) rfl
                  have f1 := R2.out.frozen 1
                  have z2 := R2.out.cell (i := 2) rfl
                  have f2 := R2.out.frozen 2
                  have z3 := R2.out.cell (i := 3) rfl
                  have f3 := R2.out.frozen 3
                  have z4 := R2.out.cell (i := 4) rfl
                  have f4 := R2.out.frozen 4
                  have hrl := R2.out.lt
                  go_wp2
                  obtain ⟨hB, hL⟩ := req_put R2.out ⟨0, 0, 0, false, none, 0, 0⟩
                  have hbl := B2.out.trans (hL _ (Nat.le_refl _))
                  refine bodyPost_ret (v := .tuple #[reqV ⟨0, 0, 0, false, none, 0, 0⟩, .bool false]) (ret_cell2 (g := w.heap.size) (v := reqV ⟨0, 0, 0, false, none, 0, 0⟩) rfl rfl rfl (req_load hB)) rfl ?_
                  exact .inl ⟨HV.out, _, rfl, hbl⟩
        have hno_take := hh
        clear hh
        by_cases hh : h = w_putS
        · have e_take : (h.toList == [116, 97, 107, 101]) = false := by rw [hh]; decide +kernel
          have e_put : (h.toList == [112, 117, 116]) = true := by rw [hh]; decide +kernel
          have e_recv : (h.toList == [114, 101, 99, 118]) = false := by rw [hh]; decide +kernel
          have e_tryrecv : (h.toList == [116, 114, 121, 114, 101, 99, 118]) = false := by rw [hh]; decide +kernel
          have e_send : (h.toList == [115, 101, 110, 100]) = false := by rw [hh]; decide +kernel
          have e_trysend : (h.toList == [116, 114, 121, 115, 101, 110, 100]) = false := by rw [hh]; decide +kernel
          have e_cancel : (h.toList == [99, 97, 110, 99, 101, 108]) = false := by rw [hh]; decide +kernel
          by_cases hm0 : m = 0
          · subst hm0
            have HV : RowKit.Hid (callQ l = none) := Lib.hid (by rw [HVN.out]; unfold wordN; rw [HXL.out, if_neg (by omega)]; rw [hh]; rfl)
            clear hh
            have z0 := R2.out.cell (i := 0) rfl
            have f0 := R2.out.frozen 0
            have z1 := R2.out.cell (i := 1) rfl
            have f1 := R2.out.frozen 1
            have z2 := R2.out.cell (i := 2) rfl
            have f2 := R2.out.frozen 2
            have z3 := R2.out.cell (i := 3) rfl
            have f3 := R2.out.frozen 3
            have z4 := R2.out.cell (i := 4) rfl
            have f4 := R2.out.frozen 4
            have hrl := R2.out.lt
            go_wp2
            obtain ⟨hB, hL⟩ := req_put R2.out ⟨0, 0, 0, false, none, 0, 0⟩
            have hbl := B2.out.trans (hL _ (Nat.le_refl _))
            refine bodyPost_ret (v := .tuple #[reqV ⟨0, 0, 0, false, none, 0, 0⟩, .bool false]) (ret_cell2 (g := w.heap.size) (v := reqV ⟨0, 0, 0, false, none, 0, 0⟩) rfl rfl rfl (req_load hB)) rfl ?_
            exact .inl ⟨HV.out, _, rfl, hbl⟩
          · obtain ⟨b2, rfl, hb2w, hb2l, hcs⟩ := nums_cell hown (by omega)
            have y0 := hcs 0 (by rw [HXL.out]; omega)
            have HCS := Lib.hid hcs
            clear hcs hown
            generalize hgn : x.getD 0 0 = n0 at *
            have HN0 := Lib.hid hgn
            clear hgn
            have q0 : ((m : Int) == 0) = false := by rw [beq_eq_false_iff_ne]; omega
            by_cases hm1 : m = 1
            · subst hm1
              have HV : RowKit.Hid (callQ l = some ⟨8, 0, (n0 : Int), false, []⟩) := Lib.hid (by rw [HVN.out]; unfold wordN; rw [HXL.out, HN0.out, hh, if_neg (fun e => e.elim (fun e => by omega) (fun e => e.2.2 rfl))]; rfl)
              clear hh
              have z0 := R2.out.cell (i := 0) rfl
              have f0 := R2.out.frozen 0
              have z1 := R2.out.cell (i := 1) rfl
              have f1 := R2.out.frozen 1
              have z2 := R2.out.cell (i := 2) rfl
              have f2 := R2.out.frozen 2
              have z3 := R2.out.cell (i := 3) rfl
              have f3 := R2.out.frozen 3
              have z4 := R2.out.cell (i := 4) rfl
              have f4 := R2.out.frozen 4
              have hrl := R2.out.lt
              go_wp2
              obtain ⟨hB, hL⟩ := req_put R2.out ⟨8, 0, (n0 : Int), false, none, 0, 0⟩
              have hbl := B2.out.trans (hL _ (Nat.le_refl _))
              refine bodyPost_ret (v := .tuple #[reqV ⟨8, 0, (n0 : Int), false, none, 0, 0⟩, .bool true]) (ret_cell2 (g := w.heap.size) (v := reqV ⟨8, 0, (n0 : Int), false, none, 0, 0⟩) rfl rfl rfl (req_load hB)) rfl ?_
              exact .inr ⟨⟨8, 0, (n0 : Int), false, []⟩, none, 0, HV.out, rfl, .inl rfl, (fun b o h => by cases h), hbl⟩
            · have q1 : ((m : Int) == 1) = false := by rw [beq_eq_false_iff_ne]; omega
              by_cases hbig : 65535 < n0
              · have q2 : (65535 : Int) < (n0 : Int) := by omega
                by_cases hm2 : m = 2
                · subst hm2
                  have HV : RowKit.Hid (callQ l = none) := Lib.hid (by rw [HVN.out]; unfold wordN; rw [HXL.out, HN0.out, hh, if_neg (fun e => e.elim (fun e => by omega) (fun e => e.2.2 rfl))]; rfl)
                  clear hh
                  have z0 := R2.out.cell (i := 0) rfl
                  have f0 := R2.out.frozen 0
                  have z1 := R2.out.cell (i := 1) rfl
                  have f1 := R2.out.frozen 1
                  have z2 := R2.out.cell (i := 2) rfl
                  have f2 := R2.out.frozen 2
                  have z3 := R2.out.cell (i := 3) rfl
                  have f3 := R2.out.frozen 3
                  have z4 := R2.out.cell (i := 4) rfl
                  have f4 := R2.out.frozen 4
                  have hrl := R2.out.lt
                  go_wp2
                  obtain ⟨hB, hL⟩ := req_put R2.out ⟨0, 0, 0, false, none, 0, 0⟩
                  have hbl := B2.out.trans (hL _ (Nat.le_refl _))
                  refine bodyPost_ret (v := .tuple #[reqV ⟨0, 0, 0, false, none, 0, 0⟩, .bool false]) (ret_cell2 (g := w.heap.size) (v := reqV ⟨0, 0, 0, false, none, 0, 0⟩) rfl rfl rfl (req_load hB)) rfl ?_
                  exact .inl ⟨HV.out, _, rfl, hbl⟩
                · have hm3 : 2 < m := by omega
                  have HV : RowKit.Hid (callQ l = none) := Lib.hid (by rw [HVN.out]; unfold wordN; rw [HXL.out, if_pos (.inl (by omega))])
                  clear hh
                  have z0 := R2.out.cell (i := 0) rfl
                  have f0 := R2.out.frozen 0
                  have z1 := R2.out.cell (i := 1) rfl
                  have f1 := R2.out.frozen 1
                  have z2 := R2.out.cell (i := 2) rfl
                  have f2 := R2.out.frozen 2
                  have z3 := R2.out.cell (i := 3) rfl
                  have f3 := R2.out.frozen 3
                  have z4 := R2.out.cell (i := 4) rfl
                  have f4 := R2.out.frozen 4
                  have hrl := R2.out.lt
                  go_wp2
                  obtain ⟨hB, hL⟩ := req_put R2.out ⟨0, 0, 0, false, none, 0, 0⟩
                  have hbl := B2.out.trans (hL _ (Nat.le_refl _))
                  refine bodyPost_ret (v := .tuple #[reqV ⟨0, 0, 0, false, none, 0, 0⟩, .bool false]) (ret_cell2 (g := w.heap.size) (v := reqV ⟨0, 0, 0, false, none, 0, 0⟩) rfl rfl rfl (req_load hB)) rfl ?_
                  exact .inl ⟨HV.out, _, rfl, hbl⟩
              · have q2 : ¬ (65535 : Int) < (n0 : Int) := by omega
                by_cases hm2 : m = 2
                · subst hm2
                  have HV : RowKit.Hid (callQ l = none) := Lib.hid (by rw [HVN.out]; unfold wordN; rw [HXL.out, HN0.out, if_neg (fun e => by rcases e with e | ⟨_, e, _⟩ <;> omega)]; rw [hh]; rfl)
                  clear hh
                  have z0 := R2.out.cell (i := 0) rfl
                  have f0 := R2.out.frozen 0
                  have z1 := R2.out.cell (i := 1) rfl
                  have f1 := R2.out.frozen 1
                  have z2 := R2.out.cell (i := 2) rfl
                  have f2 := R2.out.frozen 2
                  have z3 := R2.out.cell (i := 3) rfl
                  have f3 := R2.out.frozen 3
                  have z4 := R2.out.cell (i := 4) rfl
                  have f4 := R2.out.frozen 4
                  have hrl := R2.out.lt
                  go_wp2
                  obtain ⟨hB, hL⟩ := req_put R2.out ⟨0, 0, 0, false, none, 0, 0⟩
                  have hbl := B2.out.trans (hL _ (Nat.le_refl _))
                  refine bodyPost_ret (v := .tuple #[reqV ⟨0, 0, 0, false, none, 0, 0⟩, .bool false]) (ret_cell2 (g := w.heap.size) (v := reqV ⟨0, 0, 0, false, none, 0, 0⟩) rfl rfl rfl (req_load hB)) rfl ?_
                  exact .inl ⟨HV.out, _, rfl, hbl⟩
                · have hm3 : 2 < m := by omega
                  have q3 : (2 : Int) < (m : Int) := by omega
                  have HV : RowKit.Hid (callQ l = none) := Lib.hid (by rw [HVN.out]; unfold wordN; rw [HXL.out, if_pos (.inl (by omega))])
                  clear hh
                  have z0 := R2.out.cell (i := 0) rfl
                  have f0 := R2.out.frozen 0
                  have z1 := R2.out.cell (i := 1) rfl
                  have f1 := R2.out.frozen 1
                  have z2 := R2.out.cell (i := 2) rfl
                  have f2 := R2.out.frozen 2
                  have z3 := R2.out.cell (i := 3) rfl
                  have f3 := R2.out.frozen 3
                  have z4 := R2.out.cell (i := 4) rfl
                  have f4 := R2.out.frozen 4
                  have hrl := R2.out.lt
                  go_wp2
                  obtain ⟨hB, hL⟩ := req_put R2.out ⟨0, 0, 0, false, none, 0, 0⟩
                  have hbl := B2.out.trans (hL _ (Nat.le_refl _))
                  refine bodyPost_ret (v := .tuple #[reqV ⟨0, 0, 0, false, none, 0, 0⟩, .bool false]) (ret_cell2 (g := w.heap.size) (v := reqV ⟨0, 0, 0, false, none, 0, 0⟩) rfl rfl rfl (req_load hB)) rfl ?_
                  exact .inl ⟨HV.out, _, rfl, hbl⟩
        have hno_put := hh
        clear hh
        by_cases hh : h = w_recvS
        · have e_take : (h.toList == [116, 97, 107, 101]) = false := by rw [hh]; decide +kernel
          have e_put : (h.toList == [112, 117, 116]) = false := by rw [hh]; decide +kernel
          have e_recv : (h.toList == [114, 101, 99, 118]) = true := by rw [hh]; decide +kernel
          have e_tryrecv : (h.toList == [116, 114, 121, 114, 101, 99, 118]) = false := by rw [hh]; decide +kernel
          have e_send : (h.toList == [115, 101, 110, 100]) = false := by rw [hh]; decide +kernel
          have e_trysend : (h.toList == [116, 114, 121, 115, 101, 110, 100]) = false := by rw [hh]; decide +kernel
          have e_cancel : (h.toList == [99, 97, 110, 99, 101, 108]) = false := by rw [hh]; decide +kernel
          by_cases hm0 : m = 0
          · subst hm0
            have HV : RowKit.Hid (callQ l = none) := Lib.hid (by rw [HVN.out]; unfold wordN; rw [HXL.out, if_neg (by omega)]; rw [hh]; rfl)
            clear hh
            have z0 := R2.out.cell (i := 0) rfl
            have f0 := R2.out.frozen 0
            have z1 := R2.out.cell (i := 1) rfl
            have f1 := R2.out.frozen 1
            have z2 := R2.out.cell (i := 2) rfl
            have f2 := R2.out.frozen 2
            have z3 := R2.out.cell (i := 3) rfl
            have f3 := R2.out.frozen 3
            have z4 := R2.out.cell (i := 4) rfl
            have f4 := R2.out.frozen 4
            have hrl := R2.out.lt
            go_wp2
            obtain ⟨hB, hL⟩ := req_put R2.out ⟨0, 0, 0, false, none, 0, 0⟩
            have hbl := B2.out.trans (hL _ (Nat.le_refl _))
            refine bodyPost_ret (v := .tuple #[reqV ⟨0, 0, 0, false, none, 0, 0⟩, .bool false]) (ret_cell2 (g := w.heap.size) (v := reqV ⟨0, 0, 0, false, none, 0, 0⟩) rfl rfl rfl (req_load hB)) rfl ?_
            exact .inl ⟨HV.out, _, rfl, hbl⟩
          · obtain ⟨b2, rfl, hb2w, hb2l, hcs⟩ := nums_cell hown (by omega)
            have y0 := hcs 0 (by rw [HXL.out]; omega)
            have HCS := Lib.hid hcs
            clear hcs hown
            generalize hgn : x.getD 0 0 = n0 at *
            have HN0 := Lib.hid hgn
            clear hgn
            have q0 : ((m : Int) == 0) = false := by rw [beq_eq_false_iff_ne]; omega
            by_cases hbig : 65535 < n0
            · have q2 : (65535 : Int) < (n0 : Int) := by omega
              have HV : RowKit.Hid (callQ l = none) := Lib.hid (by rw [HVN.out]; unfold wordN; rw [HXL.out, HN0.out, if_pos (.inr ⟨by omega, by omega, by rw [hh]; decide +kernel⟩)])
              clear hh
              have z0 := R2.out.cell (i := 0) rfl
              have f0 := R2.out.frozen 0
              have z1 := R2.out.cell (i := 1) rfl
              have f1 := R2.out.frozen 1
              have z2 := R2.out.cell (i := 2) rfl
              have f2 := R2.out.frozen 2
              have z3 := R2.out.cell (i := 3) rfl
              have f3 := R2.out.frozen 3
              have z4 := R2.out.cell (i := 4) rfl
              have f4 := R2.out.frozen 4
              have hrl := R2.out.lt
              go_wp2
              obtain ⟨hB, hL⟩ := req_put R2.out ⟨0, 0, 0, false, none, 0, 0⟩
              have hbl := B2.out.trans (hL _ (Nat.le_refl _))
              refine bodyPost_ret (v := .tuple #[reqV ⟨0, 0, 0, false, none, 0, 0⟩, .bool false]) (ret_cell2 (g := w.heap.size) (v := reqV ⟨0, 0, 0, false, none, 0, 0⟩) rfl rfl rfl (req_load hB)) rfl ?_
              exact .inl ⟨HV.out, _, rfl, hbl⟩
            · have q2 : ¬ (65535 : Int) < (n0 : Int) := by omega
              by_cases hm1 : m = 1
              · subst hm1
                have HV : RowKit.Hid (callQ l = some ⟨3, 0, 0, false, [⟨2, (n0 : Int), 0⟩]⟩) := Lib.hid (by rw [HVN.out]; unfold wordN; rw [HXL.out, HN0.out, if_neg (fun e => by rcases e with e | ⟨_, e, _⟩ <;> omega)]; rw [hh]; rfl)
                clear hh
                have HO1 := Lib.hid (fun W => rOne_any 2 (n0 : Int) 0 false W)
                go_wp2_with (go_at_call 113; (refine (HO1.out _).mono ?_); rintro e w3 ⟨A', n', c', rfl, hq3, hn3, hab3, hb3⟩; have hB3 := hb3; have R3 := R2.out.below hB3 R2.out.lt; have r0 := R3.cell (i := 0) rfl; have t0 := R3.frozen 0; have r1 := R3.cell (i := 1) rfl; have t1 := R3.frozen 1; have r2 := R3.cell (i := 2) rfl; have t2 := R3.frozen 2; have r3 := R3.cell (i := 3) rfl; have t3 := R3.frozen 3; have r4 := R3.cell (i := 4) rfl; have t4 := R3.frozen 4; have hrl3 := R3.lt)
                subst hn3
                have R3h := Lib.hid R3
                have B3 := Lib.hid (B2.out.trans (hB3.mono B2.out.size))
                have HQ3 := Lib.hid hq3
                have HAB3 := Lib.hid hab3
                have hw2l := Lib.hid B2.out.size
                go_wp2
                obtain ⟨hB, hL⟩ := req_put R3h.out ⟨3, 0, 0, false, A', 1, c'⟩
                have hbl := B3.out.trans (hL _ (Nat.le_refl _))
                have hap : ∀ b o, A' = some ⟨b, o, none⟩ → b ≠ w.heap.size := fun b o h => by have h1 : w2.heap.size < b := HAB3.out b o h; have h2 := hw2l.out; omega
                have hap2 : ∀ b o, A' = some ⟨b, o, none⟩ → w.heap.size ≤ b := fun b o h => by have h1 : w2.heap.size < b := HAB3.out b o h; have h2 := hw2l.out; omega
                have hr := HQ3.out.rd
                refine bodyPost_ret (v := .tuple #[reqV ⟨3, 0, 0, false, A', 1, c'⟩, .bool true]) (ret_cell2 (g := w.heap.size) (v := reqV ⟨3, 0, 0, false, A', 1, c'⟩) rfl rfl rfl (req_load hB)) rfl ?_
                exact .inr ⟨⟨3, 0, 0, false, [⟨2, (n0 : Int), 0⟩]⟩, A', c', HV.out, rfl, ((((hr.set_ hap _ _).set_ hap _ _).set_ hap _ _).set_ hap _ _).set_ hap _ _, hap2, hbl⟩
              · have q1 : ((m : Int) == 1) = false := by rw [beq_eq_false_iff_ne]; omega
                by_cases hm2 : m = 2
                · subst hm2
                  have HV : RowKit.Hid (callQ l = none) := Lib.hid (by rw [HVN.out]; unfold wordN; rw [HXL.out, HN0.out, if_neg (fun e => by rcases e with e | ⟨_, e, _⟩ <;> omega)]; rw [hh]; rfl)
                  clear hh
                  have z0 := R2.out.cell (i := 0) rfl
                  have f0 := R2.out.frozen 0
                  have z1 := R2.out.cell (i := 1) rfl
                  have f1 := R2.out.frozen 1
                  have z2 := R2.out.cell (i := 2) rfl
                  have f2 := R2.out.frozen 2
                  have z3 := R2.out.cell (i := 3) rfl
                  have f3 := R2.out.frozen 3
                  have z4 := R2.out.cell (i := 4) rfl
                  have f4 := R2.out.frozen 4
                  have hrl := R2.out.lt
                  go_wp2
                  obtain ⟨hB, hL⟩ := req_put R2.out ⟨0, 0, 0, false, none, 0, 0⟩
                  have hbl := B2.out.trans (hL _ (Nat.le_refl _))
                  refine bodyPost_ret (v := .tuple #[reqV ⟨0, 0, 0, false, none, 0, 0⟩, .bool false]) (ret_cell2 (g := w.heap.size) (v := reqV ⟨0, 0, 0, false, none, 0, 0⟩) rfl rfl rfl (req_load hB)) rfl ?_
                  exact .inl ⟨HV.out, _, rfl, hbl⟩
                · have hm3 : 2 < m := by omega
                  have q3 : (2 : Int) < (m : Int) := by omega
                  have HV : RowKit.Hid (callQ l = none) := Lib.hid (by rw [HVN.out]; unfold wordN; rw [HXL.out, if_pos (.inl (by omega))])
                  clear hh
                  have z0 := R2.out.cell (i := 0) rfl
                  have f0 := R2.out.frozen 0
                  have z1 := R2.out.cell (i := 1) rfl
                  have f1 := R2.out.frozen 1
                  have z2 := R2.out.cell (i := 2) rfl
                  have f2 := R2.out.frozen 2
                  have z3 := R2.out.cell (i := 3) rfl
                  have f3 := R2.out.frozen 3
                  have z4 := R2.out.cell (i := 4) rfl
                  have f4 := R2.out.frozen 4
                  have hrl := R2.out.lt
                  go_wp2
                  obtain ⟨hB, hL⟩ := req_put R2.out ⟨0, 0, 0, false, none, 0, 0⟩
                  have hbl := B2.out.trans (hL _ (Nat.le_refl _))
                  refine bodyPost_ret (v := .tuple #[reqV ⟨0, 0, 0, false, none, 0, 0⟩, .bool false]) (ret_cell2 (g := w.heap.size) (v := reqV ⟨0, 0, 0, false, none, 0, 0⟩) rfl rfl rfl (req_load hB)) rfl ?_
                  exact .inl ⟨HV.out, _, rfl, hbl⟩
        have hno_recv := hh
        clear hh
        by_cases hh : h = w_tryrecvS
        · have e_take : (h.toList == [116, 97, 107, 101]) = false := by rw [hh]; decide +kernel
          have e_put : (h.toList == [112, 117, 116]) = false := by rw [hh]; decide +kernel
          have e_recv : (h.toList == [114, 101, 99, 118]) = false := by rw [hh]; decide +kernel
          have e_tryrecv : (h.toList == [116, 114, 121, 114, 101, 99, 118]) = true := by rw [hh]; decide +kernel
          have e_send : (h.toList == [115, 101, 110, 100]) = false := by rw [hh]; decide +kernel
          have e_trysend : (h.toList == [116, 114, 121, 115, 101, 110, 100]) = false := by rw [hh]; decide +kernel
          have e_cancel : (h.toList == [99, 97, 110, 99, 101, 108]) = false := by rw [hh]; decide +kernel
          by_cases hm0 : m = 0
          · subst hm0
            have HV : RowKit.Hid (callQ l = none) := Lib.hid (by rw [HVN.out]; unfold wordN; rw [HXL.out, if_neg (by omega)]; rw [hh]; rfl)
            clear hh
            have z0 := R2.out.cell (i := 0) rfl
            have f0 := R2.out.frozen 0
            have z1 := R2.out.cell (i := 1) rfl
            have f1 := R2.out.frozen 1
            have z2 := R2.out.cell (i := 2) rfl
            have f2 := R2.out.frozen 2
            have z3 := R2.out.cell (i := 3) rfl
            have f3 := R2.out.frozen 3
            have z4 := R2.out.cell (i := 4) rfl
            have f4 := R2.out.frozen 4
            have hrl := R2.out.lt
            go_wp2
            obtain ⟨hB, hL⟩ := req_put R2.out ⟨0, 0, 0, false, none, 0, 0⟩
            have hbl := B2.out.trans (hL _ (Nat.le_refl _))
            refine bodyPost_ret (v := .tuple #[reqV ⟨0, 0, 0, false, none, 0, 0⟩, .bool false]) (ret_cell2 (g := w.heap.size) (v := reqV ⟨0, 0, 0, false, none, 0, 0⟩) rfl rfl rfl (req_load hB)) rfl ?_
            exact .inl ⟨HV.out, _, rfl, hbl⟩
          · obtain ⟨b2, rfl, hb2w, hb2l, hcs⟩ := nums_cell hown (by omega)
            have y0 := hcs 0 (by rw [HXL.out]; omega)
            have HCS := Lib.hid hcs
            clear hcs hown
            generalize hgn : x.getD 0 0 = n0 at *
            have HN0 := Lib.hid hgn
            clear hgn
            have q0 : ((m : Int) == 0) = false := by rw [beq_eq_false_iff_ne]; omega
            by_cases hbig : 65535 < n0
            · have q2 : (65535 : Int) < (n0 : Int) := by omega
              have HV : RowKit.Hid (callQ l = none) := Lib.hid (by rw [HVN.out]; unfold wordN; rw [HXL.out, HN0.out, if_pos (.inr ⟨by omega, by omega, by rw [hh]; decide +kernel⟩)])
              clear hh
              have z0 := R2.out.cell (i := 0) rfl
              have f0 := R2.out.frozen 0
              have z1 := R2.out.cell (i := 1) rfl
              have f1 := R2.out.frozen 1
              have z2 := R2.out.cell (i := 2) rfl
              have f2 := R2.out.frozen 2
              have z3 := R2.out.cell (i := 3) rfl
              have f3 := R2.out.frozen 3
              have z4 := R2.out.cell (i := 4) rfl
              have f4 := R2.out.frozen 4
              have hrl := R2.out.lt
              go_wp2
              obtain ⟨hB, hL⟩ := req_put R2.out ⟨0, 0, 0, false, none, 0, 0⟩
              have hbl := B2.out.trans (hL _ (Nat.le_refl _))
              refine bodyPost_ret (v := .tuple #[reqV ⟨0, 0, 0, false, none, 0, 0⟩, .bool false]) (ret_cell2 (g := w.heap.size) (v := reqV ⟨0, 0, 0, false, none, 0, 0⟩) rfl rfl rfl (req_load hB)) rfl ?_
              exact .inl ⟨HV.out, _, rfl, hbl⟩
            · have q2 : ¬ (65535 : Int) < (n0 : Int) := by omega
              by_cases hm1 : m = 1
              · subst hm1
                have HV : RowKit.Hid (callQ l = some ⟨3, 0, 0, true, [⟨2, (n0 : Int), 0⟩]⟩) := Lib.hid (by rw [HVN.out]; unfold wordN; rw [HXL.out, HN0.out, if_neg (fun e => by rcases e with e | ⟨_, e, _⟩ <;> omega)]; rw [hh]; rfl)
                clear hh
                have HO1 := Lib.hid (fun W => rOne_any 2 (n0 : Int) 0 true W)
                go_wp2_with (go_at_call 113; (refine (HO1.out _).mono ?_); rintro e w3 ⟨A', n', c', rfl, hq3, hn3, hab3, hb3⟩; have hB3 := hb3; have R3 := R2.out.below hB3 R2.out.lt; have r0 := R3.cell (i := 0) rfl; have t0 := R3.frozen 0; have r1 := R3.cell (i := 1) rfl; have t1 := R3.frozen 1; have r2 := R3.cell (i := 2) rfl; have t2 := R3.frozen 2; have r3 := R3.cell (i := 3) rfl; have t3 := R3.frozen 3; have r4 := R3.cell (i := 4) rfl; have t4 := R3.frozen 4; have hrl3 := R3.lt)
                subst hn3
                have R3h := Lib.hid R3
                have B3 := Lib.hid (B2.out.trans (hB3.mono B2.out.size))
                have HQ3 := Lib.hid hq3
                have HAB3 := Lib.hid hab3
                have hw2l := Lib.hid B2.out.size
                go_wp2
                obtain ⟨hB, hL⟩ := req_put R3h.out ⟨3, 0, 0, true, A', 1, c'⟩
                have hbl := B3.out.trans (hL _ (Nat.le_refl _))
                have hap : ∀ b o, A' = some ⟨b, o, none⟩ → b ≠ w.heap.size := fun b o h => by have h1 : w2.heap.size < b := HAB3.out b o h; have h2 := hw2l.out; omega
                have hap2 : ∀ b o, A' = some ⟨b, o, none⟩ → w.heap.size ≤ b := fun b o h => by have h1 : w2.heap.size < b := HAB3.out b o h; have h2 := hw2l.out; omega
                have hr := HQ3.out.rd
                refine bodyPost_ret (v := .tuple #[reqV ⟨3, 0, 0, true, A', 1, c'⟩, .bool true]) (ret_cell2 (g := w.heap.size) (v := reqV ⟨3, 0, 0, true, A', 1, c'⟩) rfl rfl rfl (req_load hB)) rfl ?_
                exact .inr ⟨⟨3, 0, 0, true, [⟨2, (n0 : Int), 0⟩]⟩, A', c', HV.out, rfl, ((((hr.set_ hap _ _).set_ hap _ _).set_ hap _ _).set_ hap _ _).set_ hap _ _, hap2, hbl⟩
              · have q1 : ((m : Int) == 1) = false := by rw [beq_eq_false_iff_ne]; omega
                by_cases hm2 : m = 2
                · subst hm2
                  have HV : RowKit.Hid (callQ l = none) := Lib.hid (by rw [HVN.out]; unfold wordN; rw [HXL.out, HN0.out, if_neg (fun e => by rcases e with e | ⟨_, e, _⟩ <;> omega)]; rw [hh]; rfl)
                  clear hh
                  have z0 := R2.out.cell (i := 0) rfl
                  have f0 := R2.out.frozen 0
                  have z1 := R2.out.cell (i := 1) rfl
                  have f1 := R2.out.frozen 1
                  have z2 := R2.out.cell (i := 2) rfl
                  have f2 := R2.out.frozen 2
                  have z3 := R2.out.cell (i := 3) rfl
                  have f3 := R2.out.frozen 3
                  have z4 := R2.out.cell (i := 4) rfl
                  have f4 := R2.out.frozen 4
                  have hrl := R2.out.lt
                  go_wp2
                  obtain ⟨hB, hL⟩ := req_put R2.out ⟨0, 0, 0, false, none, 0, 0⟩
                  have hbl := B2.out.trans (hL _ (Nat.le_refl _))
                  refine bodyPost_ret (v := .tuple #[reqV ⟨0, 0, 0, false, none, 0, 0⟩, .bool false]) (ret_cell2 (g := w.heap.size) (v := reqV ⟨0, 0, 0, false, none, 0, 0⟩) rfl rfl rfl (req_load hB)) rfl ?_
                  exact .inl ⟨HV.out, _, rfl, hbl⟩
                · have hm3 : 2 < m := by omega
                  have q3 : (2 : Int) < (m : Int) := by omega
                  have HV : RowKit.Hid (callQ l = none) := Lib.hid (by rw [HVN.out]; unfold wordN; rw [HXL.out, if_pos (.inl (by omega))])
                  clear hh
                  have z0 := R2.out.cell (i := 0) rfl
                  have f0 := R2.out.frozen 0
                  have z1 := R2.out.cell (i := 1) rfl
                  have f1 := R2.out.frozen 1
                  have z2 := R2.out.cell (i := 2) rfl
                  have f2 := R2.out.frozen 2
                  have z3 := R2.out.cell (i := 3) rfl
                  have f3 := R2.out.frozen 3
                  have z4 := R2.out.cell (i := 4) rfl
                  have f4 := R2.out.frozen 4
                  have hrl := R2.out.lt
                  go_wp2
                  obtain ⟨hB, hL⟩ := req_put R2.out ⟨0, 0, 0, false, none, 0, 0⟩
                  have hbl := B2.out.trans (hL _ (Nat.le_refl _))
                  refine bodyPost_ret (v := .tuple #[reqV ⟨0, 0, 0, false, none, 0, 0⟩, .bool false]) (ret_cell2 (g := w.heap.size) (v := reqV ⟨0, 0, 0, false, none, 0, 0⟩) rfl rfl rfl (req_load hB)) rfl ?_
                  exact .inl ⟨HV.out, _, rfl, hbl⟩
        have hno_tryrecv := hh
        clear hh
        by_cases hh : h = w_sendS
        · have e_take : (h.toList == [116, 97, 107, 101]) = false := by rw [hh]; decide +kernel
          have e_put : (h.toList == [112, 117, 116]) = false := by rw [hh]; decide +kernel
          have e_recv : (h.toList == [114, 101, 99, 118]) = false := by rw [hh]; decide +kernel
          have e_tryrecv : (h.toList == [116, 114, 121, 114, 101, 99, 118]) = false := by rw [hh]; decide +kernel
          have e_send : (h.toList == [115, 101, 110, 100]) = true := by rw [hh]; decide +kernel
          have e_trysend : (h.toList == [116, 114, 121, 115, 101, 110, 100]) = false := by rw [hh]; decide +kernel
          have e_cancel : (h.toList == [99, 97, 110, 99, 101, 108]) = false := by rw [hh]; decide +kernel
          by_cases hm0 : m = 0
          · subst hm0
            have HV : RowKit.Hid (callQ l = none) := Lib.hid (by rw [HVN.out]; unfold wordN; rw [HXL.out, if_neg (by omega)]; rw [hh]; rfl)
            clear hh
            have z0 := R2.out.cell (i := 0) rfl
            have f0 := R2.out.frozen 0
            have z1 := R2.out.cell (i := 1) rfl
            have f1 := R2.out.frozen 1
            have z2 := R2.out.cell (i := 2) rfl
            have f2 := R2.out.frozen 2
            have z3 := R2.out.cell (i := 3) rfl
            have f3 := R2.out.frozen 3
            have z4 := R2.out.cell (i := 4) rfl
            have f4 := R2.out.frozen 4
            have hrl := R2.out.lt
            go_wp2
            obtain ⟨hB, hL⟩ := req_put R2.out ⟨0, 0, 0, false, none, 0, 0⟩
            have hbl := B2.out.trans (hL _ (Nat.le_refl _))
            refine bodyPost_ret (v := .tuple #[reqV ⟨0, 0, 0, false, none, 0, 0⟩, .bool false]) (ret_cell2 (g := w.heap.size) (v := reqV ⟨0, 0, 0, false, none, 0, 0⟩) rfl rfl rfl (req_load hB)) rfl ?_
            exact .inl ⟨HV.out, _, rfl, hbl⟩
          · obtain ⟨b2, rfl, hb2w, hb2l, hcs⟩ := nums_cell hown (by omega)
            have y0 := hcs 0 (by rw [HXL.out]; omega)
            have HCS := Lib.hid hcs
            clear hcs hown
            generalize hgn : x.getD 0 0 = n0 at *
            have HN0 := Lib.hid hgn
            clear hgn
            have q0 : ((m : Int) == 0) = false := by rw [beq_eq_false_iff_ne]; omega
            by_cases hbig : 65535 < n0
            · have q2 : (65535 : Int) < (n0 : Int) := by omega
              have HV : RowKit.Hid (callQ l = none) := Lib.hid (by rw [HVN.out]; unfold wordN; rw [HXL.out, HN0.out, if_pos (.inr ⟨by omega, by omega, by rw [hh]; decide +kernel⟩)])
              clear hh
              have z0 := R2.out.cell (i := 0) rfl
              have f0 := R2.out.frozen 0
              have z1 := R2.out.cell (i := 1) rfl
              have f1 := R2.out.frozen 1
              have z2 := R2.out.cell (i := 2) rfl
              have f2 := R2.out.frozen 2
              have z3 := R2.out.cell (i := 3) rfl
              have f3 := R2.out.frozen 3
              have z4 := R2.out.cell (i := 4) rfl
              have f4 := R2.out.frozen 4
              have hrl := R2.out.lt
              go_wp2
              obtain ⟨hB, hL⟩ := req_put R2.out ⟨0, 0, 0, false, none, 0, 0⟩
              have hbl := B2.out.trans (hL _ (Nat.le_refl _))
              refine bodyPost_ret (v := .tuple #[reqV ⟨0, 0, 0, false, none, 0, 0⟩, .bool false]) (ret_cell2 (g := w.heap.size) (v := reqV ⟨0, 0, 0, false, none, 0, 0⟩) rfl rfl rfl (req_load hB)) rfl ?_
              exact .inl ⟨HV.out, _, rfl, hbl⟩
            · have q2 : ¬ (65535 : Int) < (n0 : Int) := by omega
              by_cases hm1 : m = 1
              · subst hm1
                have HV : RowKit.Hid (callQ l = none) := Lib.hid (by rw [HVN.out]; unfold wordN; rw [HXL.out, HN0.out, if_neg (fun e => by rcases e with e | ⟨_, e, _⟩ <;> omega)]; rw [hh]; rfl)
                have hk : kindQ h = 0 := by rw [hh]; decide +kernel
                clear hh
                have HKD := Lib.hid (fun W => rKind_any h W)
                rw [hk] at HKD
                clear hk
                go_wp2_with (go_at_call 114; refine (HKD.out _).mono ?_; rintro e w3 ⟨rfl, hb3⟩; have y3 := (hb3.cell (p := ⟨b2, 0, none⟩) hb2l).trans y0; have hb3l := Nat.lt_of_lt_of_le hb2l hb3.size; have R3 := R2.out.below hb3 R2.out.lt; have r0 := R3.cell (i := 0) rfl; have t0 := R3.frozen 0; have r1 := R3.cell (i := 1) rfl; have t1 := R3.frozen 1; have r2 := R3.cell (i := 2) rfl; have t2 := R3.frozen 2; have r3 := R3.cell (i := 3) rfl; have t3 := R3.frozen 3; have r4 := R3.cell (i := 4) rfl; have t4 := R3.frozen 4; have hrl3 := R3.lt)
                have R3h := Lib.hid R3
                have B3 := Lib.hid (B2.out.trans (hb3.mono B2.out.size))
                obtain ⟨hB, hL⟩ := req_put R3h.out ⟨0, (n0 : Int), 0, false, none, 0, 0⟩
                have hbl := B3.out.trans (hL _ (Nat.le_refl _))
                refine bodyPost_ret (v := .tuple #[reqV ⟨0, (n0 : Int), 0, false, none, 0, 0⟩, .bool false]) (ret_cell2 (g := w.heap.size) (v := reqV ⟨0, (n0 : Int), 0, false, none, 0, 0⟩) rfl rfl rfl (req_load hB)) rfl ?_
                exact .inl ⟨HV.out, _, rfl, hbl⟩
              · have q1 : ((m : Int) == 1) = false := by rw [beq_eq_false_iff_ne]; omega
                by_cases hm2 : m = 2
                · subst hm2
                  have y1 := HCS.out 1 (by rw [HXL.out]; omega)
                  generalize hgn1 : x.getD 1 0 = n1 at *
                  have HN1 := Lib.hid hgn1
                  clear hgn1
                  have HV : RowKit.Hid (callQ l = some ⟨3, 0, 0, false, [⟨1, (n0 : Int), (n1 : Int)⟩]⟩) := Lib.hid (by rw [HVN.out]; unfold wordN; rw [HXL.out, HN0.out, if_neg (fun e => by rcases e with e | ⟨_, e, _⟩ <;> omega)]; rw [HN1.out, hh]; rfl)
                  clear hh
                  have HO1 := Lib.hid (fun W => rOne_any 1 (n0 : Int) (n1 : Int) false W)
                  have z0 := R2.out.cell (i := 0) rfl
                  have f0 := R2.out.frozen 0
                  have z1 := R2.out.cell (i := 1) rfl
                  have f1 := R2.out.frozen 1
                  have z2 := R2.out.cell (i := 2) rfl
                  have f2 := R2.out.frozen 2
                  have z3 := R2.out.cell (i := 3) rfl
                  have f3 := R2.out.frozen 3
                  have z4 := R2.out.cell (i := 4) rfl
                  have f4 := R2.out.frozen 4
                  have hrl := R2.out.lt
                  have hnb : ¬ b2 = w.heap.size := by have := R1.out.lt; have := hb2w; omega
                  have hnb2 : ¬ w.heap.size = b2 := fun e => hnb e.symm
                  go_upto_region 26 with (fail)
                  go_region_held3 (fun w' => w'.cell? ⟨b2, 0, none⟩ = some (.int .i64 (n0 : Int)) ∧ w'.cell? ⟨b2, 1, none⟩ = some (.int .i64 (n1 : Int))) (first | go_keep | (simp only [hk1]; go_keep)) (first
                    | (go_at_call 113; (with_reducible refine (HO1.out w2.drew).mono ?_); rintro e w3 ⟨A', n', c', rfl, hq3, hn3, hab3, hb3⟩; have hB3 : Below w2.heap.size w2 w3 := ⟨hb3.os, hb3.tape, hb3.output, hb3.size, hb3.block⟩; have hk1 := fun o => hB3.cell (p := ⟨b2, o, none⟩) hb2l; have s0 := (hk1 0).trans y0; have s1 := (hk1 1).trans y1; have R3 := R2.out.below hB3 R2.out.lt; have r0 := R3.cell (i := 0) rfl; have t0 := R3.frozen 0; have r1 := R3.cell (i := 1) rfl; have t1 := R3.frozen 1; have r2 := R3.cell (i := 2) rfl; have t2 := R3.frozen 2; have r3 := R3.cell (i := 3) rfl; have t3 := R3.frozen 3; have r4 := R3.cell (i := 4) rfl; have t4 := R3.frozen 4; have hrl3 := R3.lt))
                  subst hn3
                  have R3h := Lib.hid R3
                  have B3 := Lib.hid (B2.out.trans (hB3.mono B2.out.size))
                  have HQ3 := Lib.hid hq3
                  have HAB3 := Lib.hid hab3
                  have hw2l := Lib.hid B2.out.size
                  go_wp2
                  obtain ⟨hB, hL⟩ := req_put R3h.out ⟨3, 0, 0, false, A', 1, c'⟩
                  have hbl := B3.out.trans (hL _ (Nat.le_refl _))
                  have hap : ∀ b o, A' = some ⟨b, o, none⟩ → b ≠ w.heap.size := fun b o h => by have h1 : w2.heap.size < b := HAB3.out b o h; have h2 := hw2l.out; omega
                  have hap2 : ∀ b o, A' = some ⟨b, o, none⟩ → w.heap.size ≤ b := fun b o h => by have h1 : w2.heap.size < b := HAB3.out b o h; have h2 := hw2l.out; omega
                  have hr := HQ3.out.rd
                  refine bodyPost_ret (v := .tuple #[reqV ⟨3, 0, 0, false, A', 1, c'⟩, .bool true]) (ret_cell2 (g := w.heap.size) (v := reqV ⟨3, 0, 0, false, A', 1, c'⟩) rfl rfl rfl (req_load hB)) rfl ?_
                  exact .inr ⟨⟨3, 0, 0, false, [⟨1, (n0 : Int), (n1 : Int)⟩]⟩, A', c', HV.out, rfl, ((((hr.set_ hap _ _).set_ hap _ _).set_ hap _ _).set_ hap _ _).set_ hap _ _, hap2, hbl⟩
                · have hm3 : 2 < m := by omega
                  have q3 : (2 : Int) < (m : Int) := by omega
                  have HV : RowKit.Hid (callQ l = none) := Lib.hid (by rw [HVN.out]; unfold wordN; rw [HXL.out, if_pos (.inl (by omega))])
                  clear hh
                  have z0 := R2.out.cell (i := 0) rfl
                  have f0 := R2.out.frozen 0
                  have z1 := R2.out.cell (i := 1) rfl
                  have f1 := R2.out.frozen 1
                  have z2 := R2.out.cell (i := 2) rfl
                  have f2 := R2.out.frozen 2
                  have z3 := R2.out.cell (i := 3) rfl
                  have f3 := R2.out.frozen 3
                  have z4 := R2.out.cell (i := 4) rfl
                  have f4 := R2.out.frozen 4
                  have hrl := R2.out.lt
                  go_wp2
                  obtain ⟨hB, hL⟩ := req_put R2.out ⟨0, 0, 0, false, none, 0, 0⟩
                  have hbl := B2.out.trans (hL _ (Nat.le_refl _))
                  refine bodyPost_ret (v := .tuple #[reqV ⟨0, 0, 0, false, none, 0, 0⟩, .bool false]) (ret_cell2 (g := w.heap.size) (v := reqV ⟨0, 0, 0, false, none, 0, 0⟩) rfl rfl rfl (req_load hB)) rfl ?_
                  exact .inl ⟨HV.out, _, rfl, hbl⟩
        have hno_send := hh
        clear hh
        by_cases hh : h = w_trysendS
        · have e_take : (h.toList == [116, 97, 107, 101]) = false := by rw [hh]; decide +kernel
          have e_put : (h.toList == [112, 117, 116]) = false := by rw [hh]; decide +kernel
          have e_recv : (h.toList == [114, 101, 99, 118]) = false := by rw [hh]; decide +kernel
          have e_tryrecv : (h.toList == [116, 114, 121, 114, 101, 99, 118]) = false := by rw [hh]; decide +kernel
          have e_send : (h.toList == [115, 101, 110, 100]) = false := by rw [hh]; decide +kernel
          have e_trysend : (h.toList == [116, 114, 121, 115, 101, 110, 100]) = true := by rw [hh]; decide +kernel
          have e_cancel : (h.toList == [99, 97, 110, 99, 101, 108]) = false := by rw [hh]; decide +kernel
          by_cases hm0 : m = 0
          · subst hm0
            have HV : RowKit.Hid (callQ l = none) := Lib.hid (by rw [HVN.out]; unfold wordN; rw [HXL.out, if_neg (by omega)]; rw [hh]; rfl)
            clear hh
            have z0 := R2.out.cell (i := 0) rfl
            have f0 := R2.out.frozen 0
            have z1 := R2.out.cell (i := 1) rfl
            have f1 := R2.out.frozen 1
            have z2 := R2.out.cell (i := 2) rfl
            have f2 := R2.out.frozen 2
            have z3 := R2.out.cell (i := 3) rfl
            have f3 := R2.out.frozen 3
            have z4 := R2.out.cell (i := 4) rfl
            have f4 := R2.out.frozen 4
            have hrl := R2.out.lt
            go_wp2
            obtain ⟨hB, hL⟩ := req_put R2.out ⟨0, 0, 0, false, none, 0, 0⟩
            have hbl := B2.out.trans (hL _ (Nat.le_refl _))
            refine bodyPost_ret (v := .tuple #[reqV ⟨0, 0, 0, false, none, 0, 0⟩, .bool false]) (ret_cell2 (g := w.heap.size) (v := reqV ⟨0, 0, 0, false, none, 0, 0⟩) rfl rfl rfl (req_load hB)) rfl ?_
            exact .inl ⟨HV.out, _, rfl, hbl⟩
          · obtain ⟨b2, rfl, hb2w, hb2l, hcs⟩ := nums_cell hown (by omega)
            have y0 := hcs 0 (by rw [HXL.out]; omega)
            have HCS := Lib.hid hcs
            clear hcs hown
            generalize hgn : x.getD 0 0 = n0 at *
            have HN0 := Lib.hid hgn
            clear hgn
            have q0 : ((m : Int) == 0) = false := by rw [beq_eq_false_iff_ne]; omega
            by_cases hbig : 65535 < n0
            · have q2 : (65535 : Int) < (n0 : Int) := by omega
              have HV : RowKit.Hid (callQ l = none) := Lib.hid (by rw [HVN.out]; unfold wordN; rw [HXL.out, HN0.out, if_pos (.inr ⟨by omega, by omega, by rw [hh]; decide +kernel⟩)])
              clear hh
              have z0 := R2.out.cell (i := 0) rfl
              have f0 := R2.out.frozen 0
              have z1 := R2.out.cell (i := 1) rfl
              have f1 := R2.out.frozen 1
              have z2 := R2.out.cell (i := 2) rfl
              have f2 := R2.out.frozen 2
              have z3 := R2.out.cell (i := 3) rfl
              have f3 := R2.out.frozen 3
              have z4 := R2.out.cell (i := 4) rfl
              have f4 := R2.out.frozen 4
              have hrl := R2.out.lt
              go_wp2
              obtain ⟨hB, hL⟩ := req_put R2.out ⟨0, 0, 0, false, none, 0, 0⟩
              have hbl := B2.out.trans (hL _ (Nat.le_refl _))
              refine bodyPost_ret (v := .tuple #[reqV ⟨0, 0, 0, false, none, 0, 0⟩, .bool false]) (ret_cell2 (g := w.heap.size) (v := reqV ⟨0, 0, 0, false, none, 0, 0⟩) rfl rfl rfl (req_load hB)) rfl ?_
              exact .inl ⟨HV.out, _, rfl, hbl⟩
            · have q2 : ¬ (65535 : Int) < (n0 : Int) := by omega
              by_cases hm1 : m = 1
              · subst hm1
                have HV : RowKit.Hid (callQ l = none) := Lib.hid (by rw [HVN.out]; unfold wordN; rw [HXL.out, HN0.out, if_neg (fun e => by rcases e with e | ⟨_, e, _⟩ <;> omega)]; rw [hh]; rfl)
                have hk : kindQ h = 0 := by rw [hh]; decide +kernel
                clear hh
                have HKD := Lib.hid (fun W => rKind_any h W)
                rw [hk] at HKD
                clear hk
                go_wp2_with (go_at_call 114; refine (HKD.out _).mono ?_; rintro e w3 ⟨rfl, hb3⟩; have y3 := (hb3.cell (p := ⟨b2, 0, none⟩) hb2l).trans y0; have hb3l := Nat.lt_of_lt_of_le hb2l hb3.size; have R3 := R2.out.below hb3 R2.out.lt; have r0 := R3.cell (i := 0) rfl; have t0 := R3.frozen 0; have r1 := R3.cell (i := 1) rfl; have t1 := R3.frozen 1; have r2 := R3.cell (i := 2) rfl; have t2 := R3.frozen 2; have r3 := R3.cell (i := 3) rfl; have t3 := R3.frozen 3; have r4 := R3.cell (i := 4) rfl; have t4 := R3.frozen 4; have hrl3 := R3.lt)
                have R3h := Lib.hid R3
                have B3 := Lib.hid (B2.out.trans (hb3.mono B2.out.size))
                obtain ⟨hB, hL⟩ := req_put R3h.out ⟨0, (n0 : Int), 0, false, none, 0, 0⟩
                have hbl := B3.out.trans (hL _ (Nat.le_refl _))
                refine bodyPost_ret (v := .tuple #[reqV ⟨0, (n0 : Int), 0, false, none, 0, 0⟩, .bool false]) (ret_cell2 (g := w.heap.size) (v := reqV ⟨0, (n0 : Int), 0, false, none, 0, 0⟩) rfl rfl rfl (req_load hB)) rfl ?_
                exact .inl ⟨HV.out, _, rfl, hbl⟩
              · have q1 : ((m : Int) == 1) = false := by rw [beq_eq_false_iff_ne]; omega
                by_cases hm2 : m = 2
                · subst hm2
                  have y1 := HCS.out 1 (by rw [HXL.out]; omega)
                  generalize hgn1 : x.getD 1 0 = n1 at *
                  have HN1 := Lib.hid hgn1
                  clear hgn1
                  have HV : RowKit.Hid (callQ l = some ⟨3, 0, 0, true, [⟨1, (n0 : Int), (n1 : Int)⟩]⟩) := Lib.hid (by rw [HVN.out]; unfold wordN; rw [HXL.out, HN0.out, if_neg (fun e => by rcases e with e | ⟨_, e, _⟩ <;> omega)]; rw [HN1.out, hh]; rfl)
                  clear hh
                  have HO1 := Lib.hid (fun W => rOne_any 1 (n0 : Int) (n1 : Int) true W)
                  have z0 := R2.out.cell (i := 0) rfl
                  have f0 := R2.out.frozen 0
                  have z1 := R2.out.cell (i := 1) rfl
                  have f1 := R2.out.frozen 1
                  have z2 := R2.out.cell (i := 2) rfl
                  have f2 := R2.out.frozen 2
                  have z3 := R2.out.cell (i := 3) rfl
                  have f3 := R2.out.frozen 3
                  have z4 := R2.out.cell (i := 4) rfl
                  have f4 := R2.out.frozen 4
                  have hrl := R2.out.lt
                  have hnb : ¬ b2 = w.heap.size := by have := R1.out.lt; have := hb2w; omega
                  have hnb2 : ¬ w.heap.size = b2 := fun e => hnb e.symm
                  go_upto_region 28 with (fail)
                  go_region_held3 (fun w' => w'.cell? ⟨b2, 0, none⟩ = some (.int .i64 (n0 : Int)) ∧ w'.cell? ⟨b2, 1, none⟩ = some (.int .i64 (n1 : Int))) (first | go_keep | (simp only [hk1]; go_keep)) (first
                    | (go_at_call 113; (with_reducible refine (HO1.out w2.drew).mono ?_); rintro e w3 ⟨A', n', c', rfl, hq3, hn3, hab3, hb3⟩; have hB3 : Below w2.heap.size w2 w3 := ⟨hb3.os, hb3.tape, hb3.output, hb3.size, hb3.block⟩; have hk1 := fun o => hB3.cell (p := ⟨b2, o, none⟩) hb2l; have s0 := (hk1 0).trans y0; have s1 := (hk1 1).trans y1; have R3 := R2.out.below hB3 R2.out.lt; have r0 := R3.cell (i := 0) rfl; have t0 := R3.frozen 0; have r1 := R3.cell (i := 1) rfl; have t1 := R3.frozen 1; have r2 := R3.cell (i := 2) rfl; have t2 := R3.frozen 2; have r3 := R3.cell (i := 3) rfl; have t3 := R3.frozen 3; have r4 := R3.cell (i := 4) rfl; have t4 := R3.frozen 4; have hrl3 := R3.lt))
                  subst hn3
                  have R3h := Lib.hid R3
                  have B3 := Lib.hid (B2.out.trans (hB3.mono B2.out.size))
                  have HQ3 := Lib.hid hq3
                  have HAB3 := Lib.hid hab3
                  have hw2l := Lib.hid B2.out.size
                  go_wp2
                  obtain ⟨hB, hL⟩ := req_put R3h.out ⟨3, 0, 0, true, A', 1, c'⟩
                  have hbl := B3.out.trans (hL _ (Nat.le_refl _))
                  have hap : ∀ b o, A' = some ⟨b, o, none⟩ → b ≠ w.heap.size := fun b o h => by have h1 : w2.heap.size < b := HAB3.out b o h; have h2 := hw2l.out; omega
                  have hap2 : ∀ b o, A' = some ⟨b, o, none⟩ → w.heap.size ≤ b := fun b o h => by have h1 : w2.heap.size < b := HAB3.out b o h; have h2 := hw2l.out; omega
                  have hr := HQ3.out.rd
                  refine bodyPost_ret (v := .tuple #[reqV ⟨3, 0, 0, true, A', 1, c'⟩, .bool true]) (ret_cell2 (g := w.heap.size) (v := reqV ⟨3, 0, 0, true, A', 1, c'⟩) rfl rfl rfl (req_load hB)) rfl ?_
                  exact .inr ⟨⟨3, 0, 0, true, [⟨1, (n0 : Int), (n1 : Int)⟩]⟩, A', c', HV.out, rfl, ((((hr.set_ hap _ _).set_ hap _ _).set_ hap _ _).set_ hap _ _).set_ hap _ _, hap2, hbl⟩
                · have hm3 : 2 < m := by omega
                  have q3 : (2 : Int) < (m : Int) := by omega
                  have HV : RowKit.Hid (callQ l = none) := Lib.hid (by rw [HVN.out]; unfold wordN; rw [HXL.out, if_pos (.inl (by omega))])
                  clear hh
                  have z0 := R2.out.cell (i := 0) rfl
                  have f0 := R2.out.frozen 0
                  have z1 := R2.out.cell (i := 1) rfl
                  have f1 := R2.out.frozen 1
                  have z2 := R2.out.cell (i := 2) rfl
                  have f2 := R2.out.frozen 2
                  have z3 := R2.out.cell (i := 3) rfl
                  have f3 := R2.out.frozen 3
                  have z4 := R2.out.cell (i := 4) rfl
                  have f4 := R2.out.frozen 4
                  have hrl := R2.out.lt
                  go_wp2
                  obtain ⟨hB, hL⟩ := req_put R2.out ⟨0, 0, 0, false, none, 0, 0⟩
                  have hbl := B2.out.trans (hL _ (Nat.le_refl _))
                  refine bodyPost_ret (v := .tuple #[reqV ⟨0, 0, 0, false, none, 0, 0⟩, .bool false]) (ret_cell2 (g := w.heap.size) (v := reqV ⟨0, 0, 0, false, none, 0, 0⟩) rfl rfl rfl (req_load hB)) rfl ?_
                  exact .inl ⟨HV.out, _, rfl, hbl⟩
        have hno_trysend := hh
        clear hh
        by_cases hh : h = w_cancelS
        · have e_take : (h.toList == [116, 97, 107, 101]) = false := by rw [hh]; decide +kernel
          have e_put : (h.toList == [112, 117, 116]) = false := by rw [hh]; decide +kernel
          have e_recv : (h.toList == [114, 101, 99, 118]) = false := by rw [hh]; decide +kernel
          have e_tryrecv : (h.toList == [116, 114, 121, 114, 101, 99, 118]) = false := by rw [hh]; decide +kernel
          have e_send : (h.toList == [115, 101, 110, 100]) = false := by rw [hh]; decide +kernel
          have e_trysend : (h.toList == [116, 114, 121, 115, 101, 110, 100]) = false := by rw [hh]; decide +kernel
          have e_cancel : (h.toList == [99, 97, 110, 99, 101, 108]) = true := by rw [hh]; decide +kernel
          by_cases hm0 : m = 0
          · subst hm0
            have HV : RowKit.Hid (callQ l = none) := Lib.hid (by rw [HVN.out]; unfold wordN; rw [HXL.out, if_neg (by omega)]; rw [hh]; rfl)
            clear hh
            have z0 := R2.out.cell (i := 0) rfl
            have f0 := R2.out.frozen 0
            have z1 := R2.out.cell (i := 1) rfl
            have f1 := R2.out.frozen 1
            have z2 := R2.out.cell (i := 2) rfl
            have f2 := R2.out.frozen 2
            have z3 := R2.out.cell (i := 3) rfl
            have f3 := R2.out.frozen 3
            have z4 := R2.out.cell (i := 4) rfl
            have f4 := R2.out.frozen 4
            have hrl := R2.out.lt
            go_wp2
            obtain ⟨hB, hL⟩ := req_put R2.out ⟨0, 0, 0, false, none, 0, 0⟩
            have hbl := B2.out.trans (hL _ (Nat.le_refl _))
            refine bodyPost_ret (v := .tuple #[reqV ⟨0, 0, 0, false, none, 0, 0⟩, .bool false]) (ret_cell2 (g := w.heap.size) (v := reqV ⟨0, 0, 0, false, none, 0, 0⟩) rfl rfl rfl (req_load hB)) rfl ?_
            exact .inl ⟨HV.out, _, rfl, hbl⟩
          · obtain ⟨b2, rfl, hb2w, hb2l, hcs⟩ := nums_cell hown (by omega)
            have y0 := hcs 0 (by rw [HXL.out]; omega)
            have HCS := Lib.hid hcs
            clear hcs hown
            generalize hgn : x.getD 0 0 = n0 at *
            have HN0 := Lib.hid hgn
            clear hgn
            have q0 : ((m : Int) == 0) = false := by rw [beq_eq_false_iff_ne]; omega
            by_cases hbig : 65535 < n0
            · have q2 : (65535 : Int) < (n0 : Int) := by omega
              have HV : RowKit.Hid (callQ l = none) := Lib.hid (by rw [HVN.out]; unfold wordN; rw [HXL.out, HN0.out, if_pos (.inr ⟨by omega, by omega, by rw [hh]; decide +kernel⟩)])
              clear hh
              have z0 := R2.out.cell (i := 0) rfl
              have f0 := R2.out.frozen 0
              have z1 := R2.out.cell (i := 1) rfl
              have f1 := R2.out.frozen 1
              have z2 := R2.out.cell (i := 2) rfl
              have f2 := R2.out.frozen 2
              have z3 := R2.out.cell (i := 3) rfl
              have f3 := R2.out.frozen 3
              have z4 := R2.out.cell (i := 4) rfl
              have f4 := R2.out.frozen 4
              have hrl := R2.out.lt
              go_wp2
              obtain ⟨hB, hL⟩ := req_put R2.out ⟨0, 0, 0, false, none, 0, 0⟩
              have hbl := B2.out.trans (hL _ (Nat.le_refl _))
              refine bodyPost_ret (v := .tuple #[reqV ⟨0, 0, 0, false, none, 0, 0⟩, .bool false]) (ret_cell2 (g := w.heap.size) (v := reqV ⟨0, 0, 0, false, none, 0, 0⟩) rfl rfl rfl (req_load hB)) rfl ?_
              exact .inl ⟨HV.out, _, rfl, hbl⟩
            · have q2 : ¬ (65535 : Int) < (n0 : Int) := by omega
              by_cases hm1 : m = 1
              · subst hm1
                have HV : RowKit.Hid (callQ l = none) := Lib.hid (by rw [HVN.out]; unfold wordN; rw [HXL.out, HN0.out, if_neg (fun e => by rcases e with e | ⟨_, e, _⟩ <;> omega)]; rw [hh]; rfl)
                have hk : kindQ h = 0 := by rw [hh]; decide +kernel
                clear hh
                have HKD := Lib.hid (fun W => rKind_any h W)
                rw [hk] at HKD
                clear hk
                go_wp2_with (go_at_call 114; refine (HKD.out _).mono ?_; rintro e w3 ⟨rfl, hb3⟩; have y3 := (hb3.cell (p := ⟨b2, 0, none⟩) hb2l).trans y0; have hb3l := Nat.lt_of_lt_of_le hb2l hb3.size; have R3 := R2.out.below hb3 R2.out.lt; have r0 := R3.cell (i := 0) rfl; have t0 := R3.frozen 0; have r1 := R3.cell (i := 1) rfl; have t1 := R3.frozen 1; have r2 := R3.cell (i := 2) rfl; have t2 := R3.frozen 2; have r3 := R3.cell (i := 3) rfl; have t3 := R3.frozen 3; have r4 := R3.cell (i := 4) rfl; have t4 := R3.frozen 4; have hrl3 := R3.lt)
                have R3h := Lib.hid R3
                have B3 := Lib.hid (B2.out.trans (hb3.mono B2.out.size))
                obtain ⟨hB, hL⟩ := req_put R3h.out ⟨0, (n0 : Int), 0, false, none, 0, 0⟩
                have hbl := B3.out.trans (hL _ (Nat.le_refl _))
                refine bodyPost_ret (v := .tuple #[reqV ⟨0, (n0 : Int), 0, false, none, 0, 0⟩, .bool false]) (ret_cell2 (g := w.heap.size) (v := reqV ⟨0, (n0 : Int), 0, false, none, 0, 0⟩) rfl rfl rfl (req_load hB)) rfl ?_
                exact .inl ⟨HV.out, _, rfl, hbl⟩
              · have q1 : ((m : Int) == 1) = false := by rw [beq_eq_false_iff_ne]; omega
                by_cases hm2 : m = 2
                · subst hm2
                  have y1 := HCS.out 1 (by rw [HXL.out]; omega)
                  generalize hgn1 : x.getD 1 0 = n1 at *
                  have HN1 := Lib.hid hgn1
                  clear hgn1
                  have HV : RowKit.Hid (callQ l = some ⟨7, (n0 : Int), (n1 : Int), false, []⟩) := Lib.hid (by rw [HVN.out]; unfold wordN; rw [HXL.out, HN0.out, if_neg (fun e => by rcases e with e | ⟨_, e, _⟩ <;> omega)]; rw [HN1.out, hh]; rfl)
                  clear hh
                  have z0 := R2.out.cell (i := 0) rfl
                  have f0 := R2.out.frozen 0
                  have z1 := R2.out.cell (i := 1) rfl
                  have f1 := R2.out.frozen 1
                  have z2 := R2.out.cell (i := 2) rfl
                  have f2 := R2.out.frozen 2
                  have z3 := R2.out.cell (i := 3) rfl
                  have f3 := R2.out.frozen 3
                  have z4 := R2.out.cell (i := 4) rfl
                  have f4 := R2.out.frozen 4
                  have hrl := R2.out.lt
                  go_upto_region 30 with (fail)
                  go_region
                  go_wp2
                  obtain ⟨hB, hL⟩ := req_put R2.out ⟨7, (n0 : Int), (n1 : Int), false, none, 0, 0⟩
                  have hbl := B2.out.trans (hL _ (Nat.le_refl _))
                  refine bodyPost_ret (v := .tuple #[reqV ⟨7, (n0 : Int), (n1 : Int), false, none, 0, 0⟩, .bool true]) (ret_cell2 (g := w.heap.size) (v := reqV ⟨7, (n0 : Int), (n1 : Int), false, none, 0, 0⟩) rfl rfl rfl (req_load (Blk.drew hB))) rfl ?_
                  exact .inr ⟨⟨7, (n0 : Int), (n1 : Int), false, []⟩, none, 0, HV.out, rfl, .inl rfl, (fun b o h => by cases h), ⟨hbl.os, hbl.tape, hbl.output, hbl.size, hbl.block⟩⟩
                · have hm3 : 2 < m := by omega
                  have q3 : (2 : Int) < (m : Int) := by omega
                  have HV : RowKit.Hid (callQ l = none) := Lib.hid (by rw [HVN.out]; unfold wordN; rw [HXL.out, if_pos (.inl (by omega))])
                  clear hh
                  have z0 := R2.out.cell (i := 0) rfl
                  have f0 := R2.out.frozen 0
                  have z1 := R2.out.cell (i := 1) rfl
                  have f1 := R2.out.frozen 1
                  have z2 := R2.out.cell (i := 2) rfl
                  have f2 := R2.out.frozen 2
                  have z3 := R2.out.cell (i := 3) rfl
                  have f3 := R2.out.frozen 3
                  have z4 := R2.out.cell (i := 4) rfl
                  have f4 := R2.out.frozen 4
                  have hrl := R2.out.lt
                  go_wp2
                  obtain ⟨hB, hL⟩ := req_put R2.out ⟨0, 0, 0, false, none, 0, 0⟩
                  have hbl := B2.out.trans (hL _ (Nat.le_refl _))
                  refine bodyPost_ret (v := .tuple #[reqV ⟨0, 0, 0, false, none, 0, 0⟩, .bool false]) (ret_cell2 (g := w.heap.size) (v := reqV ⟨0, 0, 0, false, none, 0, 0⟩) rfl rfl rfl (req_load hB)) rfl ?_
                  exact .inl ⟨HV.out, _, rfl, hbl⟩
        have hno_cancel := hh
        clear hh
        have e_take := eqL (l := [116, 97, 107, 101]) hno_take (by decide +kernel)
        have e_put := eqL (l := [112, 117, 116]) hno_put (by decide +kernel)
        have e_recv := eqL (l := [114, 101, 99, 118]) hno_recv (by decide +kernel)
        have e_tryrecv := eqL (l := [116, 114, 121, 114, 101, 99, 118]) hno_tryrecv (by decide +kernel)
        have e_send := eqL (l := [115, 101, 110, 100]) hno_send (by decide +kernel)
        have e_trysend := eqL (l := [116, 114, 121, 115, 101, 110, 100]) hno_trysend (by decide +kernel)
        have e_cancel := eqL (l := [99, 97, 110, 99, 101, 108]) hno_cancel (by decide +kernel)
        by_cases hm0 : m = 0
        · subst hm0
          have HV : RowKit.Hid (callQ l = none) := Lib.hid (by rw [HVN.out]; unfold wordN; rw [HXL.out, if_neg (by omega)]; exact tab0 hno_take)
          have z0 := R2.out.cell (i := 0) rfl
          have f0 := R2.out.frozen 0
          have z1 := R2.out.cell (i := 1) rfl
          have f1 := R2.out.frozen 1
          have z2 := R2.out.cell (i := 2) rfl
          have f2 := R2.out.frozen 2
          have z3 := R2.out.cell (i := 3) rfl
          have f3 := R2.out.frozen 3
          have z4 := R2.out.cell (i := 4) rfl
          have f4 := R2.out.frozen 4
          have hrl := R2.out.lt
          go_wp2
          obtain ⟨hB, hL⟩ := req_put R2.out ⟨0, 0, 0, false, none, 0, 0⟩
          have hbl := B2.out.trans (hL _ (Nat.le_refl _))
          refine bodyPost_ret (v := .tuple #[reqV ⟨0, 0, 0, false, none, 0, 0⟩, .bool false]) (ret_cell2 (g := w.heap.size) (v := reqV ⟨0, 0, 0, false, none, 0, 0⟩) rfl rfl rfl (req_load hB)) rfl ?_
          exact .inl ⟨HV.out, _, rfl, hbl⟩
        · obtain ⟨b2, rfl, hb2w, hb2l, hcs⟩ := nums_cell hown (by omega)
          have y0 := hcs 0 (by rw [HXL.out]; omega)
          have HCS := Lib.hid hcs
          clear hcs hown
          generalize hgn : x.getD 0 0 = n0 at *
          have HN0 := Lib.hid hgn
          clear hgn
          have q0 : ((m : Int) == 0) = false := by rw [beq_eq_false_iff_ne]; omega
          by_cases hbig : 65535 < n0
          · have q2 : (65535 : Int) < (n0 : Int) := by omega
            have HV : RowKit.Hid (callQ l = none) := Lib.hid (by rw [HVN.out]; unfold wordN; rw [HXL.out, HN0.out, if_pos (.inr ⟨by omega, by omega, by exact hno_put⟩)])
            have z0 := R2.out.cell (i := 0) rfl
            have f0 := R2.out.frozen 0
            have z1 := R2.out.cell (i := 1) rfl
            have f1 := R2.out.frozen 1
            have z2 := R2.out.cell (i := 2) rfl
            have f2 := R2.out.frozen 2
            have z3 := R2.out.cell (i := 3) rfl
            have f3 := R2.out.frozen 3
            have z4 := R2.out.cell (i := 4) rfl
            have f4 := R2.out.frozen 4
            have hrl := R2.out.lt
            go_wp2
            obtain ⟨hB, hL⟩ := req_put R2.out ⟨0, 0, 0, false, none, 0, 0⟩
            have hbl := B2.out.trans (hL _ (Nat.le_refl _))
            refine bodyPost_ret (v := .tuple #[reqV ⟨0, 0, 0, false, none, 0, 0⟩, .bool false]) (ret_cell2 (g := w.heap.size) (v := reqV ⟨0, 0, 0, false, none, 0, 0⟩) rfl rfl rfl (req_load hB)) rfl ?_
            exact .inl ⟨HV.out, _, rfl, hbl⟩
          · have q2 : ¬ (65535 : Int) < (n0 : Int) := by omega
            by_cases hm1 : m = 1
            · subst hm1
              by_cases hk : kindQ h = 0
              · have HV : RowKit.Hid (callQ l = none) := Lib.hid (by rw [HVN.out]; unfold wordN; rw [HXL.out, HN0.out, if_neg (fun e => by rcases e with e | ⟨_, e, _⟩ <;> omega)]; rw [tab1 hno_recv hno_tryrecv hno_put, if_pos hk])
                have HKD := Lib.hid (fun W => rKind_any h W)
                rw [hk] at HKD
                clear hk
                go_wp2_with (go_at_call 114; refine (HKD.out _).mono ?_; rintro e w3 ⟨rfl, hb3⟩; have y3 := (hb3.cell (p := ⟨b2, 0, none⟩) hb2l).trans y0; have hb3l := Nat.lt_of_lt_of_le hb2l hb3.size; have R3 := R2.out.below hb3 R2.out.lt; have r0 := R3.cell (i := 0) rfl; have t0 := R3.frozen 0; have r1 := R3.cell (i := 1) rfl; have t1 := R3.frozen 1; have r2 := R3.cell (i := 2) rfl; have t2 := R3.frozen 2; have r3 := R3.cell (i := 3) rfl; have t3 := R3.frozen 3; have r4 := R3.cell (i := 4) rfl; have t4 := R3.frozen 4; have hrl3 := R3.lt)
                have R3h := Lib.hid R3
                have B3 := Lib.hid (B2.out.trans (hb3.mono B2.out.size))
                obtain ⟨hB, hL⟩ := req_put R3h.out ⟨0, (n0 : Int), 0, false, none, 0, 0⟩
                have hbl := B3.out.trans (hL _ (Nat.le_refl _))
                refine bodyPost_ret (v := .tuple #[reqV ⟨0, (n0 : Int), 0, false, none, 0, 0⟩, .bool false]) (ret_cell2 (g := w.heap.size) (v := reqV ⟨0, (n0 : Int), 0, false, none, 0, 0⟩) rfl rfl rfl (req_load hB)) rfl ?_
                exact .inl ⟨HV.out, _, rfl, hbl⟩
              · have HV : RowKit.Hid (callQ l = some ⟨(kindQ h : Nat), (n0 : Int), 0, false, []⟩) := Lib.hid (by rw [HVN.out]; unfold wordN; rw [HXL.out, HN0.out, if_neg (fun e => by rcases e with e | ⟨_, e, _⟩ <;> omega)]; rw [tab1 hno_recv hno_tryrecv hno_put, if_neg hk])
                have HKD := Lib.hid (fun W => rKind_any h W)
                have hkp : (0 : Int) < (kindQ h : Nat) := by omega
                have hkn : 0 < kindQ h := by omega
                generalize kindQ h = kq at *
                clear hk
                go_wp2_with (go_at_call 114; refine (HKD.out _).mono ?_; rintro e w3 ⟨rfl, hb3⟩; have y3 := (hb3.cell (p := ⟨b2, 0, none⟩) hb2l).trans y0; have hb3l := Nat.lt_of_lt_of_le hb2l hb3.size; have R3 := R2.out.below hb3 R2.out.lt; have r0 := R3.cell (i := 0) rfl; have t0 := R3.frozen 0; have r1 := R3.cell (i := 1) rfl; have t1 := R3.frozen 1; have r2 := R3.cell (i := 2) rfl; have t2 := R3.frozen 2; have r3 := R3.cell (i := 3) rfl; have t3 := R3.frozen 3; have r4 := R3.cell (i := 4) rfl; have t4 := R3.frozen 4; have hrl3 := R3.lt)
                have R3h := Lib.hid R3
                have B3 := Lib.hid (B2.out.trans (hb3.mono B2.out.size))
                obtain ⟨hB, hL⟩ := req_put R3h.out ⟨(kq : Int), (n0 : Int), 0, false, none, 0, 0⟩
                have hbl := B3.out.trans (hL _ (Nat.le_refl _))
                refine bodyPost_ret (v := .tuple #[reqV ⟨(kq : Int), (n0 : Int), 0, false, none, 0, 0⟩, .bool true]) (ret_cell2 (g := w.heap.size) (v := reqV ⟨(kq : Int), (n0 : Int), 0, false, none, 0, 0⟩) rfl rfl rfl (req_load hB)) rfl ?_
                exact .inr ⟨⟨(kq : Int), (n0 : Int), 0, false, []⟩, none, 0, HV.out, rfl, .inl rfl, (fun b o h => by cases h), hbl⟩
            · have q1 : ((m : Int) == 1) = false := by rw [beq_eq_false_iff_ne]; omega
              by_cases hm2 : m = 2
              · subst hm2
                have HV : RowKit.Hid (callQ l = none) := Lib.hid (by rw [HVN.out]; unfold wordN; rw [HXL.out, HN0.out, if_neg (fun e => by rcases e with e | ⟨_, e, _⟩ <;> omega)]; exact tab2 hno_send hno_trysend hno_cancel)
                have z0 := R2.out.cell (i := 0) rfl
                have f0 := R2.out.frozen 0
                have z1 := R2.out.cell (i := 1) rfl
                have f1 := R2.out.frozen 1
                have z2 := R2.out.cell (i := 2) rfl
                have f2 := R2.out.frozen 2
                have z3 := R2.out.cell (i := 3) rfl
                have f3 := R2.out.frozen 3
                have z4 := R2.out.cell (i := 4) rfl
                have f4 := R2.out.frozen 4
                have hrl := R2.out.lt
                go_wp2
                obtain ⟨hB, hL⟩ := req_put R2.out ⟨0, 0, 0, false, none, 0, 0⟩
                have hbl := B2.out.trans (hL _ (Nat.le_refl _))
                refine bodyPost_ret (v := .tuple #[reqV ⟨0, 0, 0, false, none, 0, 0⟩, .bool false]) (ret_cell2 (g := w.heap.size) (v := reqV ⟨0, 0, 0, false, none, 0, 0⟩) rfl rfl rfl (req_load hB)) rfl ?_
                exact .inl ⟨HV.out, _, rfl, hbl⟩
              · have hm3 : 2 < m := by omega
                have q3 : (2 : Int) < (m : Int) := by omega
                have HV : RowKit.Hid (callQ l = none) := Lib.hid (by rw [HVN.out]; unfold wordN; rw [HXL.out, if_pos (.inl (by omega))])
                have z0 := R2.out.cell (i := 0) rfl
                have f0 := R2.out.frozen 0
                have z1 := R2.out.cell (i := 1) rfl
                have f1 := R2.out.frozen 1
                have z2 := R2.out.cell (i := 2) rfl
                have f2 := R2.out.frozen 2
                have z3 := R2.out.cell (i := 3) rfl
                have f3 := R2.out.frozen 3
                have z4 := R2.out.cell (i := 4) rfl
                have f4 := R2.out.frozen 4
                have hrl := R2.out.lt
                go_wp2
                obtain ⟨hB, hL⟩ := req_put R2.out ⟨0, 0, 0, false, none, 0, 0⟩
                have hbl := B2.out.trans (hL _ (Nat.le_refl _))
                refine bodyPost_ret (v := .tuple #[reqV ⟨0, 0, 0, false, none, 0, 0⟩, .bool false]) (ret_cell2 (g := w.heap.size) (v := reqV ⟨0, 0, 0, false, none, 0, 0⟩) rfl rfl rfl (req_load hB)) rfl ?_
                exact .inl ⟨HV.out, _, rfl, hbl⟩


end Go.Proofs.YtalkllfgedacoaaGreatDoor
