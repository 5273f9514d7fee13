/- The law CspErrors, walked. -/
import Derived.Test.YtmllbailfbjoeaaDoorCsp5
namespace Go.Proofs.YtmllbailfbjoeaaDoor
open Go.RowKit Go.Sort

set_option maxHeartbeats 4000000 in
set_option maxRecDepth 100000 in
theorem LawCspE_any (t : Int) (q : Reqr) (l : List Cse) (r : Resr) (w : World) (h : ReqAt w q l) (hl : HandlesOk l) (hn : l.length ≤ 1099511627776000) (ht : TabT w) :
    Calls Tryd.prog 3 #[.int .i64 t, reqV q, rsV r] w fun e w' => e = .returned (.bool true) ∧ Below w.heap.size w w' := by
  have HA := Lib.hid (fun W h1 h2 => Answer_any t q l r W h1 hl hn h2)
  have HR := Lib.hid h
  have HT := Lib.hid ht
  have HQE : RowKit.Hid (ansQ q l r = (r.code == 0 || (r.code == 10 && q.kind == 3) || (r.code == 9 && recvB l r.case_))) := Lib.hid rfl
  have HV : RowKit.Hid (ansV q l r = if ansQ q l r then r.value else 0) := Lib.hid rfl
  unfold reqV rsV
  unfold reqV rsV at HA
  have hW := ((Below.refl w.heap.size w).alloc (Nat.le_refl _) (.cells (Reqr.cells q).toArray 24)).alloc (by simp) (.cells (Resr.cells r).toArray 27)
  have HW := Lib.hid hW
  have HBR := Lib.hid (show Blk ((w.alloc (.cells (Reqr.cells q).toArray 24)).alloc (.cells (Resr.cells r).toArray 27)) (w.heap.size + 1) 27 r.cells from blk_new (by simp))
  have HSZ : RowKit.Hid (((w.alloc (.cells (Reqr.cells q).toArray 24)).alloc (.cells (Resr.cells r).toArray 27)).heap.size = w.heap.size + 2) := Lib.hid (by simp)
  clear h hl ht hn hW
  go_enter Tryd.func3, Tryd.ntmps3
  go_wp2_with fail
  refine (HA.out _ (HR.out.below HW.out) (HT.out.below HW.out)).mono ?_
  rintro e w1 ⟨err, rfl, hq1, hq2, hb⟩
  have HB1 := Lib.hid (HW.out.trans (hb.mono (by rw [HSZ.out]; omega)))
  have HBR1 := Lib.hid (HBR.out.below hb HBR.out.lt)
  have HQ1 := Lib.hid hq1
  have HQ2 := Lib.hid hq2
  obtain ⟨r0, r1, r2, r3⟩ := rsBox HBR1.out
  have hlr := HBR1.out.lt
  clear hb hq1 hq2 HA HW HBR HR HSZ
  clear r0 r1 r3
  by_cases hQ : ansQ q l r = true
  · have HQ := Lib.hid hQ
    clear hQ
    obtain rfl : err = .nilIface := HQ1.out HQ.out
    have HB2 := Lib.hid (show Below w.heap.size w (w1.alloc (.cells #[.int .i64 (ansV q l r), .int .i64 (ansC q l r), .bool (r.code == 0), .nilIface] 31)) from HB1.out.alloc HB1.out.size _)
    have HAW := Lib.hid (awake23_any _ (HT.out.below HB2.out))
    have hdd := HQE.out
    rw [HQ.out] at hdd
    have HDD := Lib.hid hdd
    clear hdd HQE HV HQ HQ1 HQ2
    generalize ansC q l r = oc at *
    generalize ansV q l r = ov at *
    by_cases h0 : r.code = 0
    · rw [h0] at r2 HAW HB2 ⊢
      have b0 : ((0 : Int) == 0) = true := rfl
      rw [b0] at HAW HB2 ⊢
      clear HDD h0
      go_wp2_with (first | (go_at_call 9; refine HAW.out.mono ?_; rintro e w2 ⟨rfl, hb2⟩; have HB3 := Lib.hid (HB2.out.trans (hb2.mono HB2.out.size)); clear hb2))
      go_ret
      exact ⟨rfl, HB3.out⟩
    · have b0 : (r.code == 0) = false := by simpa using h0
      rw [b0] at HAW HB2 ⊢
      have hd : (r.code == 10) = true ∨ ((r.code == 10) = false ∧ (r.code == 9) = true) := by
        have := HDD.out
        rw [b0] at this
        cases h10 : (r.code == 10) with
        | true => exact .inl rfl
        | false => right; refine ⟨rfl, ?_⟩; rw [h10] at this; simp at this; simpa using this.1
      clear HDD h0
      rcases hd with b1 | ⟨b1, b2⟩
      all_goals
        go_wp2_with (first | (go_at_call 9; refine HAW.out.mono ?_; rintro e w2 ⟨rfl, hb2⟩; have HB3 := Lib.hid (HB2.out.trans (hb2.mono HB2.out.size)); clear hb2))
        go_ret
        exact ⟨rfl, HB3.out⟩
  · have HQ := Lib.hid (show ansQ q l r = false by simpa using hQ)
    clear hQ
    have hc := HQ2.out HQ.out
    obtain ⟨ti, ui, rfl⟩ := hc.iface
    have HC := Lib.hid hc
    have hnz : r.code ≠ 0 := by
      have h1 := HQE.out; rw [HQ.out] at h1; intro h0; rw [h0] at h1; simp at h1
    have hov : ansV q l r = 0 := by rw [HV.out, HQ.out]; rfl
    have b0 : (r.code == 0) = false := by simpa using hnz
    rw [hov, b0]
    have HB2 := Lib.hid (show Below w.heap.size w (w1.alloc (.cells #[.int .i64 0, .int .i64 (ansC q l r), .bool false, .iface ti ui] 31)) from HB1.out.alloc HB1.out.size _)
    have HAW := Lib.hid (awake23_any _ (HT.out.below HB2.out))
    have HF := Lib.hid (FIs_any _ _ _ _ r.code _ (HC.out.below ((Below.refl _ _).alloc (Nat.le_refl _) (.cells #[.int .i64 0, .int .i64 (ansC q l r), .bool false, .iface ti ui] 31))))
    rw [show decide (r.code = r.code) = true from decide_eq_true rfl] at HF
    clear hc hnz hov HC HQ HQE HV HQ1 HQ2
    generalize ansC q l r = oc at *
    go_wp2_with (first | (go_at_call 10; refine HF.out.mono ?_; rintro e w2 ⟨rfl, rfl⟩) | (go_at_call 9; refine HAW.out.mono ?_; rintro e w3 ⟨rfl, hb3⟩; have HB3 := Lib.hid (HB2.out.trans (hb3.mono HB2.out.size)); clear hb3))
    go_ret
    exact ⟨rfl, HB3.out⟩

end Go.Proofs.YtmllbailfbjoeaaDoor
