/- A select, out of its words: the document's choice, walked. -/
import Derived.Test.YtalkllfgedacoaaGreatDoorD15
import Derived.Test.YtalkllfgedacoaaGreatDoorD16
namespace Go.Proofs.YtalkllfgedacoaaGreatDoor
open Go.RowKit Go.Sort

set_option maxHeartbeats 16000000 in
set_option maxRecDepth 100000 in
theorem choice_any (A : Option Addr) (n c : Nat) (l : List ByteArray) (w : World) (hl : l.length = n) (hn : n ≤ 1048576) (hR : Rd w A (rows l)) (hz : ∀ x ∈ l, x.size ≤ 1073741824) :
    Calls Tryz.prog 112 #[.slice A n c] w fun e w' => SelNo l w e w' ∨ SelOk l w e w' := by
  have HRL := Lib.hid hR
  have HZ := Lib.hid hz
  have HLN := Lib.hid hl
  clear hR hz hl
  have HSI0 : RowKit.Hid (SelIn w (w.heap.size + 1) ⟨3, 0, 0, false, none, 0, 0⟩ [] ((w.alloc (.cells (Reqr.cells ⟨0, 0, 0, false, none, 0, 0⟩).toArray 24)).alloc (.cells (Reqr.cells ⟨3, 0, 0, false, none, 0, 0⟩).toArray 24))) := Lib.hid
    ⟨(Blk.new w _ _).alloc _, blk_new (by simp), own_nil _ _ _ _, ((Below.refl _ _).alloc (Nat.le_refl _) _).alloc (by simp) _, by omega⟩

  by_cases hn0 : n = 0
  · subst hn0
    have hdd : dfltQ l = false := by unfold dfltQ; exact decide_eq_false (fun e => by have := HLN.out; omega)
    have HV : RowKit.Hid (selQ l = none) := Lib.hid (by unfold selQ restQ; rw [hdd, if_neg Bool.false_ne_true, List.eq_nil_of_length_eq_zero HLN.out]; rfl)
    clear hdd
    go_enter Tryz.func112, Tryz.ntmps112
    go_wp2
    have hW0 : RowKit.Hid ((w.alloc (.cells (Reqr.cells ⟨0, 0, 0, false, none, 0, 0⟩).toArray 24)).alloc (.cells (Reqr.cells ⟨3, 0, 0, false, none, 0, 0⟩).toArray 24) = (w.alloc (.cells #[.int .i64 0, .int .i64 0, .int .i64 0, .bool false, .slice none 0 0] 24)).alloc (.cells #[.int .i64 3, .int .i64 0, .int .i64 0, .bool false, .slice none 0 0] 24)) := Lib.hid rfl
    rw [hW0.out] at HSI0
    clear hW0
    generalize (w.alloc (.cells #[.int .i64 0, .int .i64 0, .int .i64 0, .bool false, .slice none 0 0] 24)).alloc (.cells #[.int .i64 3, .int .i64 0, .int .i64 0, .bool false, .slice none 0 0] 24) = W0 at *
    generalize w.heap.size + 1 = g at *
    have HSI := HSI0
    clear HSI0

    go_loopg [12] 0 (fun gg i wr => gg = 0 ∧ i = .int .i64 0 ∧ wr = W0)
    case atStart => exact ⟨rfl, rfl, rfl⟩
    case round =>
      obtain ⟨_, rfl, hW0⟩ := hrel
      rw [← hW0] at HSI
      clear hW0
      have x0 := HSI.out.blk.cell (i := 0) rfl
      have z0 := HSI.out.res.cell (i := 0) rfl
      have f0 := HSI.out.res.frozen 0
      have x1 := HSI.out.blk.cell (i := 1) rfl
      have z1 := HSI.out.res.cell (i := 1) rfl
      have f1 := HSI.out.res.frozen 1
      have x2 := HSI.out.blk.cell (i := 2) rfl
      have z2 := HSI.out.res.cell (i := 2) rfl
      have f2 := HSI.out.res.frozen 2
      have x3 := HSI.out.blk.cell (i := 3) rfl
      have z3 := HSI.out.res.cell (i := 3) rfl
      have f3 := HSI.out.res.frozen 3
      have x4 := HSI.out.blk.cell (i := 4) rfl
      have z4 := HSI.out.res.cell (i := 4) rfl
      have f4 := HSI.out.res.frozen 4
      have hgl := HSI.out.blk.lt
      have hrl := HSI.out.res.lt
      have hrg := HSI.out.low
      have hne1 : ¬ g = w.heap.size := by omega
      have hne2 : ¬ w.heap.size = g := by omega
      have HRS := Lib.hid (((((HSI.out.res.set_ 0 (.int .i64 3)).set_ 1 (.int .i64 0)).set_ 2 (.int .i64 0)).set_ 3 (.bool false)).set_ 4 (.slice none 0 0))
      have HBS := Lib.hid (((((HSI.out.bel.setCell (p := ⟨w.heap.size, 0, none⟩) (Nat.le_refl _) (.int .i64 3)).setCell (p := ⟨w.heap.size, 1, none⟩) (Nat.le_refl _) (.int .i64 0)).setCell (p := ⟨w.heap.size, 2, none⟩) (Nat.le_refl _) (.int .i64 0)).setCell (p := ⟨w.heap.size, 3, none⟩) (Nat.le_refl _) (.bool false)).setCell (p := ⟨w.heap.size, 4, none⟩) (Nat.le_refl _) (.slice none 0 0))
      go_upto_region 12 with (fail)
      go_region
      generalize (((((wr.setCell ⟨w.heap.size, 0, none⟩ (.int .i64 3)).setCell ⟨w.heap.size, 1, none⟩ (.int .i64 0)).setCell ⟨w.heap.size, 2, none⟩ (.int .i64 0)).setCell ⟨w.heap.size, 3, none⟩ (.bool false)).setCell ⟨w.heap.size, 4, none⟩ (.slice none 0 0)) = X at *
      clear x0 x1 x2 x3 x4 z0 z1 z2 z3 z4 f0 f1 f2 f3 f4
      go_wp2
      have hbs := HBS.out
      refine bodyPost_ret (v := .tuple #[reqV ⟨3, 0, 0, false, none, 0, 0⟩, .bool false]) (ret_cell2 (g := w.heap.size) (v := reqV ⟨3, 0, 0, false, none, 0, 0⟩) rfl rfl rfl (req_load (q := ⟨3, 0, 0, false, none, 0, 0⟩) (Blk.drew HRS.out))) rfl ?_
      exact .inl ⟨HV.out, _, rfl, ⟨hbs.os, hbs.tape, hbs.output, hbs.size, hbs.block⟩⟩

  obtain ⟨bb, oo, rfl, hbl, hcl⟩ := strs_cell HRL.out (fun e => hn0 (by rw [← HLN.out, e]; rfl))
  have HCL : RowKit.Hid (∀ W : World, Below w.heap.size w W → ∀ k, k < l.length → W.cell? ⟨bb, oo + k, none⟩ = some (.string (l.getD k ⟨#[]⟩))) := Lib.hid (fun W h k hk => (h.cell (p := ⟨bb, oo + k, none⟩) hbl).trans (hcl k _ (by rw [List.getD, List.getElem?_eq_getElem hk]; rfl)))
  clear hcl
  by_cases hd : dfltQ l = true
  · have HVS : RowKit.Hid (selQ l = selN true (casesQ l.tail)) := Lib.hid (by unfold selQ restQ; rw [if_pos hd, hd])
    have hdd : 0 < l.length ∧ l.getD 0 ⟨#[]⟩ = w_defS := of_decide_eq_true hd
    obtain ⟨m, hm⟩ : ∃ m, n = m + 1 := ⟨n - 1, by omega⟩
    subst hm
    have HTL : RowKit.Hid (l.tail.length = m) := Lib.hid (by rw [List.length_tail, HLN.out]; rfl)
    have HS0 := Lib.hid (fun W h => HCL.out W h 0 hdd.1)
    rw [hdd.2, Nat.add_zero] at HS0
    have HCT : RowKit.Hid (∀ W : World, Below w.heap.size w W → ∀ k, k < l.tail.length → W.cell? ⟨bb, oo + (k + 1), none⟩ = some (.string (l.tail.getD k ⟨#[]⟩))) := Lib.hid (fun W h k hk => by
      rw [HCL.out W h (k + 1) (by rw [HLN.out]; rw [HTL.out] at hk; omega)]
      congr 2
      rw [List.getD, List.getD, List.getElem?_tail])
    have HZT : RowKit.Hid (∀ x ∈ l.tail, x.size ≤ 1073741824) := Lib.hid (fun x hx => HZ.out x (List.mem_of_mem_tail hx))
    clear hd hdd HRL HZ HLN HCL
    have HZ := HZT
    have HLN := HTL
    have HCL := HCT
    clear HZT HTL HCT
    unfold w_defS at HS0
    generalize hT : l.tail = lt at *
    clear hT
    go_enter Tryz.func112, Tryz.ntmps112
    go_wp2
    have hW0 : RowKit.Hid ((w.alloc (.cells (Reqr.cells ⟨0, 0, 0, false, none, 0, 0⟩).toArray 24)).alloc (.cells (Reqr.cells ⟨3, 0, 0, false, none, 0, 0⟩).toArray 24) = (w.alloc (.cells #[.int .i64 0, .int .i64 0, .int .i64 0, .bool false, .slice none 0 0] 24)).alloc (.cells #[.int .i64 3, .int .i64 0, .int .i64 0, .bool false, .slice none 0 0] 24)) := Lib.hid rfl
    rw [hW0.out] at HSI0
    clear hW0
    generalize (w.alloc (.cells #[.int .i64 0, .int .i64 0, .int .i64 0, .bool false, .slice none 0 0] 24)).alloc (.cells #[.int .i64 3, .int .i64 0, .int .i64 0, .bool false, .slice none 0 0] 24) = W0 at *
    generalize w.heap.size + 1 = g at *
    have HSI := HSI0
    clear HSI0

    go_loopg [12] (m + 1) (fun gg i wr => (gg = m + 1 ∧ i = .int .i64 0 ∧ SelIn w g ⟨3, 0, 0, false, none, 0, 0⟩ [] wr) ∨ ∃ (j : Nat) (V : Option Addr) (cv : Nat) (cs : List Cse), j ≤ m ∧ gg = m - j ∧ i = .int .i64 ((j : Int) + 1) ∧ casesQ (lt.take j) = some cs ∧ SelIn w g ⟨3, 0, 0, true, V, j, cv⟩ cs wr)
    case atStart => exact .inl ⟨rfl, rfl, HSI.out⟩
    case round =>
      rcases hrel with ⟨hg, rfl, hsi⟩ | ⟨j, V, cv, cs, hj, hg, rfl, hcs, hsi⟩
      · clear HSI
        have HSI := Lib.hid hsi
        have HG := Lib.hid hg
        clear hsi hg
        have x0 := HS0.out wr HSI.out.bel
        have hbw : bb < wr.heap.size := Nat.lt_of_lt_of_le hbl HSI.out.bel.size
        have x3 := HSI.out.blk.cell (i := 3) rfl
        have f3 := HSI.out.blk.frozen 3
        have hgl := HSI.out.blk.lt
        have HSD := Lib.hid HSI.out.dfl
        go_wp2
        go_roundg m
        case measure => rw [HG.out]; omega
        case rel => exact .inr ⟨0, none, 0, [], Nat.zero_le _, rfl, by go_num, rfl, HSD.out⟩
      · clear HSI HS0
        have HSI := Lib.hid hsi
        have HG := Lib.hid hg
        have HCS := Lib.hid hcs
        clear hsi hg hcs
        by_cases hlt : j < m
        · have q1 : (j : Int) + 1 < (m : Int) + 1 := by omega
          have q10 : 0 ≤ (j : Int) := by omega
          have hkl : j < lt.length := by rw [HLN.out]; omega
          have x0 : wr.cell? ⟨bb, oo + (j + 1), none⟩ = some (.string (lt.getD (j) ⟨#[]⟩)) := HCL.out wr HSI.out.bel (j) hkl
          have hzs := HZ.out (lt.getD (j) ⟨#[]⟩) (by rw [List.getD, List.getElem?_eq_getElem hkl]; exact List.getElem_mem _)
          have hbw : bb < wr.heap.size := Nat.lt_of_lt_of_le hbl HSI.out.bel.size

          have HSTEP := Lib.hid (casesQ_step hkl HCS.out)
          have HDEAD := Lib.hid (fun h => casesQ_dead (l := lt) (k := j + 1) h)
          clear hkl
          generalize lt.getD (j) ⟨#[]⟩ = s at *
          have HC := Lib.hid (rone24_any s wr (by omega))
          clear hzs

          have e0 : ((j : Int) + 1 == 0) = false := by rw [beq_eq_false_iff_ne]; omega
          cases hq : caseQ s with
          | none =>
            have HV : RowKit.Hid (selQ l = none) := Lib.hid (by rw [HVS.out, HDEAD.out (by rw [HSTEP.out, hq]; rfl)]; rfl)
            unfold rone24No rone24Ok at HC
            rw [hq] at HC
            clear hq
            go_wp2_with fail
            refine HC.out.mono ?_
            rintro e w1 (⟨_, rfl, hb1⟩ | ⟨kk, h1, _⟩)
            · have HS1 := Lib.hid (HSI.out.draw (hb1.alloc hb1.size (.cells (Cse.cells Cse.none).toArray 110)))
              go_upto_region 9 with (fail)
              have hW : RowKit.Hid (w1.alloc (.cells (Cse.cells Cse.none).toArray 110) = w1.alloc (.cells #[.int .i64 Cse.none.dir, .int .i64 Cse.none.handle, .int .i64 Cse.none.value] 110)) := Lib.hid rfl
              rw [hW.out] at HS1
              clear hW hb1
              generalize (w1.alloc (.cells #[.int .i64 Cse.none.dir, .int .i64 Cse.none.handle, .int .i64 Cse.none.value] 110)) = W1 at *
              have HRZ := Lib.hid HS1.out.res
              have HBZ := Lib.hid HS1.out.bel
              go_upto_region 9 with (fail)
              refine wp_region_lit ?_
              refine wpList_buildTo rfl 24 #[] rfl (some 31) rfl (Reqr.cells ⟨0, 0, 0, false, none, 0, 0⟩).toArray (by kernel_rfl) ?_
              refine wpList_store_row rfl 24 (.tmp 2) (.tmp 31) rfl w.heap.size (Reqr.cells ⟨0, 0, 0, false, none, 0, 0⟩).toArray rfl rfl 24 (Reqr.cells ⟨0, 0, 0, false, none, 0, 0⟩).toArray HRZ.out (by kernel_rfl) (by kernel_rfl) (by kernel_rfl) ?_
              rw [setRow_self W1 w.heap.size _ _ _ HRZ.out]
              go_wp2
              refine bodyPost_ret (v := .tuple #[reqV ⟨0, 0, 0, false, none, 0, 0⟩, .bool false]) (ret_cell2 (g := w.heap.size) (v := reqV ⟨0, 0, 0, false, none, 0, 0⟩) rfl rfl rfl (req_load HRZ.out)) rfl ?_
              exact .inl ⟨HV.out, _, rfl, HBZ.out⟩

            · cases h1
          | some kk =>
            unfold rone24No rone24Ok at HC
            rw [hq] at HC HSTEP
            clear hq
            go_wp2_with fail
            refine HC.out.mono ?_
            rintro e w1 (⟨h1, _⟩ | ⟨k2, h1, rfl, hb1⟩)
            · cases h1
            injection h1 with h1
            subst h1
            have HS1 := Lib.hid (HSI.out.draw (hb1.alloc hb1.size (.cells kk.cells.toArray 110)))
            have HBX := Lib.hid (Blk.new w1 110 kk.cells)
            go_upto_region 10 with (fail)
            have hW : RowKit.Hid (w1.alloc (.cells kk.cells.toArray 110) = w1.alloc (.cells #[.int .i64 kk.dir, .int .i64 kk.handle, .int .i64 kk.value] 110)) := Lib.hid rfl
            rw [hW.out] at HS1 HBX
            clear hW hb1
            generalize (w1.alloc (.cells #[.int .i64 kk.dir, .int .i64 kk.handle, .int .i64 kk.value] 110)) = W1 at *
            generalize w1.heap.size = gb at *
            have c0 := HBX.out.cell (i := 0) rfl
            have c1 := HBX.out.cell (i := 1) rfl
            have c2 := HBX.out.cell (i := 2) rfl
            have x4 := HS1.out.blk.cell (i := 4) rfl
            have hgl := HS1.out.blk.lt
            have hgb := HBX.out.lt
            have HLC : RowKit.Hid (w.heap.size ≤ W1.heap.size) := Lib.hid HS1.out.bel.size
            go_wp2_with (at_builtin; (refine wpList_app rfl (.tmp 33) (.tmp 35) 22 110 rfl w.heap.size (cseV Cse.none) 3 24 Tryz.underlying22 CloneC_info rfl (by decide) V j cv (rows cs) rfl (own_below HS1.out.own ((Below.refl _ _).alloc (Nat.le_refl _) _)) (some ⟨W1.heap.size, 0, none⟩) 1 1 (rows [kk]) rfl (by simp) rfl (blk_new (cs := rows [kk]) rfl).rd (rows_one _) (j + 1) rfl (rows (cs ++ [kk])) (by rw [rows_append]) (by unfold maxLen; omega) (by omega) (by have := HLC.out; simp; omega) ?_); intro V3 cv3 w3 hown3 hg3 hb3; have HG3 := Lib.hid (blk_app HS1.out.own HS1.out.blk (by decide) hg3); have f4 := HG3.out.frozen 4; have y4 := HG3.out.cell (i := 4) rfl; have hg3l := HG3.out.lt; have HS3 := Lib.hid (HS1.out.app hown3 hg3))

            go_roundg (m - (j + 1))
            case measure => rw [HG.out]; omega
            case rel => exact .inr ⟨j + 1, V3, cv3, cs ++ [kk], by omega, rfl, by go_num, HSTEP.out, HS3.out⟩
        · obtain rfl : j = m := by omega
          have q1 : ¬ (j : Int) + 1 < (j : Int) + 1 := by omega
          have HALL : RowKit.Hid (casesQ lt = some cs) := Lib.hid (by
            have := HCS.out
            rwa [List.take_of_length_le (by rw [HLN.out]; exact Nat.le_refl _)] at this)
          have hcl := (casesQ_len HALL.out).trans HLN.out
          have HCL := Lib.hid hcl
          clear hcl
          have x0 := HSI.out.blk.cell (i := 0) rfl
          have x1 := HSI.out.blk.cell (i := 1) rfl
          have x2 := HSI.out.blk.cell (i := 2) rfl
          have x3 := HSI.out.blk.cell (i := 3) rfl
          have x4 := HSI.out.blk.cell (i := 4) rfl
          have z0 := HSI.out.res.cell (i := 0) rfl
          have z1 := HSI.out.res.cell (i := 1) rfl
          have z2 := HSI.out.res.cell (i := 2) rfl
          have z3 := HSI.out.res.cell (i := 3) rfl
          have z4 := HSI.out.res.cell (i := 4) rfl
          have f0 := HSI.out.res.frozen 0
          have f1 := HSI.out.res.frozen 1
          have f2 := HSI.out.res.frozen 2
          have f3 := HSI.out.res.frozen 3
          have f4 := HSI.out.res.frozen 4
          have hgl := HSI.out.blk.lt
          have hrl := HSI.out.res.lt
          have hrg := HSI.out.low
          have hne1 : ¬ g = w.heap.size := by omega
          have hne2 : ¬ w.heap.size = g := by omega
          have HVV : RowKit.Hid (selQ l = if 1 ≤ cs.length ∧ cs.length ≤ 3 then some ⟨3, 0, 0, true, cs⟩ else none) := Lib.hid (by rw [HVS.out, HALL.out]; rfl)
          rw [HCL.out] at HVV
          have hRS := ((((HSI.out.res.set_ 0 (.int .i64 3)).set_ 1 (.int .i64 0)).set_ 2 (.int .i64 0)).set_ 3 (.bool true)).set_ 4 (.slice V j cv)
          have HRS := Lib.hid hRS
          have hown := own_above HSI.out.own
          have HRD : RowKit.Hid (Rd (((((wr.setCell ⟨w.heap.size, 0, none⟩ (.int .i64 3)).setCell ⟨w.heap.size, 1, none⟩ (.int .i64 0)).setCell ⟨w.heap.size, 2, none⟩ (.int .i64 0)).setCell ⟨w.heap.size, 3, none⟩ (.bool true)).setCell ⟨w.heap.size, 4, none⟩ (.slice V j cv)) V (rows cs)) := Lib.hid (by
            have hr := own_rd HSI.out.own
            have hap : ∀ b o, V = some ⟨b, o, none⟩ → b ≠ w.heap.size := fun b o e => by
              intro hb
              subst hb
              exact own_blk_ne HSI.out.own HSI.out.res (by decide) (by rw [e]; rfl)
            exact ((((hr.set_ hap _ _).set_ hap _ _).set_ hap _ _).set_ hap _ _).set_ hap _ _)
          have HBS := Lib.hid (((((HSI.out.bel.setCell (p := ⟨w.heap.size, 0, none⟩) (Nat.le_refl _) (.int .i64 3)).setCell (p := ⟨w.heap.size, 1, none⟩) (Nat.le_refl _) (.int .i64 0)).setCell (p := ⟨w.heap.size, 2, none⟩) (Nat.le_refl _) (.int .i64 0)).setCell (p := ⟨w.heap.size, 3, none⟩) (Nat.le_refl _) (.bool true)).setCell (p := ⟨w.heap.size, 4, none⟩) (Nat.le_refl _) (.slice V j cv))
          clear hRS hown
          by_cases hk0 : 1 ≤ j ∧ j ≤ 3
          · have HV : RowKit.Hid (selQ l = some ⟨3, 0, 0, true, cs⟩) := Lib.hid (by rw [HVV.out, if_pos hk0])
            have n6 : 1 ≤ j := by omega
            have q6 : (1 : Int) ≤ (j : Int) := by omega
            have q3 : (0 : Int) < (j : Int) := by omega
            have q4 : (j : Int) ≤ 3 := by omega
            have n3 : 0 < j := by omega
            have n4 : j ≤ 3 := by omega
            clear hk0
            go_upto_region 12 with (fail)
            go_region_held3 (fun w' => w'.cell? ⟨g, 0, none⟩ = some (.int .i64 3) ∧ w'.cell? ⟨g, 1, none⟩ = some (.int .i64 0) ∧ w'.cell? ⟨g, 2, none⟩ = some (.int .i64 0) ∧ w'.cell? ⟨g, 3, none⟩ = some (.bool true) ∧ w'.cell? ⟨g, 4, none⟩ = some (.slice V j cv)) (go_keep) (fail)
            generalize (((((wr.setCell ⟨w.heap.size, 0, none⟩ (.int .i64 3)).setCell ⟨w.heap.size, 1, none⟩ (.int .i64 0)).setCell ⟨w.heap.size, 2, none⟩ (.int .i64 0)).setCell ⟨w.heap.size, 3, none⟩ (.bool true)).setCell ⟨w.heap.size, 4, none⟩ (.slice V j cv)) = X at *
            clear x0 x1 x2 x3 x4 z0 z1 z2 z3 z4 f0 f1 f2 f3 f4
            go_wp2
            have hbs := HBS.out
            refine bodyPost_ret (v := .tuple #[reqV ⟨3, 0, 0, true, V, j, cv⟩, .bool true]) (ret_cell2 (g := w.heap.size) (v := reqV ⟨3, 0, 0, true, V, j, cv⟩) rfl rfl rfl (req_load (q := ⟨3, 0, 0, true, V, j, cv⟩) (Blk.drew HRS.out))) rfl ?_
            refine .inr ⟨⟨3, 0, 0, true, cs⟩, V, cv, HV.out, rfl, rfl, rfl, ?_, HRD.out, own_above HSI.out.own, ⟨hbs.os, hbs.tape, hbs.output, hbs.size, hbs.block⟩⟩
            rw [HCL.out]
          · have HV : RowKit.Hid (selQ l = none) := Lib.hid (by rw [HVV.out, if_neg hk0])
            by_cases hk1 : j = 0
            · have n5 : ¬ 1 ≤ j := by omega
              have n3 : ¬ 0 < j := by omega
              have q3 : ¬ (1 : Int) ≤ (j : Int) := by omega
              have q5 : ¬ (0 : Int) < (j : Int) := by omega
              clear hk0 hk1
              go_upto_region 12 with (fail)
              go_region
              generalize (((((wr.setCell ⟨w.heap.size, 0, none⟩ (.int .i64 3)).setCell ⟨w.heap.size, 1, none⟩ (.int .i64 0)).setCell ⟨w.heap.size, 2, none⟩ (.int .i64 0)).setCell ⟨w.heap.size, 3, none⟩ (.bool true)).setCell ⟨w.heap.size, 4, none⟩ (.slice V j cv)) = X at *
              clear x0 x1 x2 x3 x4 z0 z1 z2 z3 z4 f0 f1 f2 f3 f4
              go_wp2
              have hbs := HBS.out
              refine bodyPost_ret (v := .tuple #[reqV ⟨3, 0, 0, true, V, j, cv⟩, .bool false]) (ret_cell2 (g := w.heap.size) (v := reqV ⟨3, 0, 0, true, V, j, cv⟩) rfl rfl rfl (req_load (q := ⟨3, 0, 0, true, V, j, cv⟩) (Blk.drew HRS.out))) rfl ?_
              exact .inl ⟨HV.out, _, rfl, ⟨hbs.os, hbs.tape, hbs.output, hbs.size, hbs.block⟩⟩
            · have n3 : 0 < j := by omega
              have n4 : ¬ j ≤ 3 := by omega
              have n6 : 1 ≤ j := by omega
              have q6 : (1 : Int) ≤ (j : Int) := by omega
              have q3 : (0 : Int) < (j : Int) := by omega
              have q4 : ¬ (j : Int) ≤ 3 := by omega
              clear hk0 hk1
              go_upto_region 12 with (fail)
              go_region_held3 (fun w' => w'.cell? ⟨g, 0, none⟩ = some (.int .i64 3) ∧ w'.cell? ⟨g, 1, none⟩ = some (.int .i64 0) ∧ w'.cell? ⟨g, 2, none⟩ = some (.int .i64 0) ∧ w'.cell? ⟨g, 3, none⟩ = some (.bool true) ∧ w'.cell? ⟨g, 4, none⟩ = some (.slice V j cv)) (go_keep) (fail)
              generalize (((((wr.setCell ⟨w.heap.size, 0, none⟩ (.int .i64 3)).setCell ⟨w.heap.size, 1, none⟩ (.int .i64 0)).setCell ⟨w.heap.size, 2, none⟩ (.int .i64 0)).setCell ⟨w.heap.size, 3, none⟩ (.bool true)).setCell ⟨w.heap.size, 4, none⟩ (.slice V j cv)) = X at *
              clear x0 x1 x2 x3 x4 z0 z1 z2 z3 z4 f0 f1 f2 f3 f4
              go_wp2
              have hbs := HBS.out
              refine bodyPost_ret (v := .tuple #[reqV ⟨3, 0, 0, true, V, j, cv⟩, .bool false]) (ret_cell2 (g := w.heap.size) (v := reqV ⟨3, 0, 0, true, V, j, cv⟩) rfl rfl rfl (req_load (q := ⟨3, 0, 0, true, V, j, cv⟩) (Blk.drew HRS.out))) rfl ?_
              exact .inl ⟨HV.out, _, rfl, ⟨hbs.os, hbs.tape, hbs.output, hbs.size, hbs.block⟩⟩

  · have hdf : dfltQ l = false := by simpa using hd
    have HVS : RowKit.Hid (selQ l = selN false (casesQ l)) := Lib.hid (by unfold selQ restQ; rw [if_neg hd, hdf])
    have HHD : RowKit.Hid (¬ l.getD 0 ⟨#[]⟩ = w_defS) := Lib.hid (fun e => hd (by unfold dfltQ; exact decide_eq_true ⟨by rw [HLN.out]; omega, e⟩))
    clear hd hdf
    go_enter Tryz.func112, Tryz.ntmps112
    go_wp2
    have hW0 : RowKit.Hid ((w.alloc (.cells (Reqr.cells ⟨0, 0, 0, false, none, 0, 0⟩).toArray 24)).alloc (.cells (Reqr.cells ⟨3, 0, 0, false, none, 0, 0⟩).toArray 24) = (w.alloc (.cells #[.int .i64 0, .int .i64 0, .int .i64 0, .bool false, .slice none 0 0] 24)).alloc (.cells #[.int .i64 3, .int .i64 0, .int .i64 0, .bool false, .slice none 0 0] 24)) := Lib.hid rfl
    rw [hW0.out] at HSI0
    clear hW0
    generalize (w.alloc (.cells #[.int .i64 0, .int .i64 0, .int .i64 0, .bool false, .slice none 0 0] 24)).alloc (.cells #[.int .i64 3, .int .i64 0, .int .i64 0, .bool false, .slice none 0 0] 24) = W0 at *
    generalize w.heap.size + 1 = g at *
    have HSI := HSI0
    clear HSI0

    go_loopg [12] n (fun gg i wr => ∃ (k : Nat) (V : Option Addr) (cv : Nat) (cs : List Cse), k ≤ n ∧ gg = n - k ∧ i = .int .i64 k ∧ casesQ (l.take k) = some cs ∧ SelIn w g ⟨3, 0, 0, false, V, k, cv⟩ cs wr)
    case atStart => exact ⟨0, none, 0, [], Nat.zero_le _, rfl, rfl, rfl, HSI.out⟩
    case round =>
      obtain ⟨k, V, cv, cs, hk, hg, rfl, hcs, hsi⟩ := hrel
      clear HSI
      have HSI := Lib.hid hsi
      have HG := Lib.hid hg
      have HCS := Lib.hid hcs
      clear hsi hg hcs
      by_cases hlt : k < n
      · have q1 : (k : Int) < (n : Int) := by omega
        have hkl : k < l.length := by rw [HLN.out]; omega
        have x0 : wr.cell? ⟨bb, oo + k, none⟩ = some (.string (l.getD (k) ⟨#[]⟩)) := HCL.out wr HSI.out.bel (k) hkl
        have hzs := HZ.out (l.getD (k) ⟨#[]⟩) (by rw [List.getD, List.getElem?_eq_getElem hkl]; exact List.getElem_mem _)
        have hbw : bb < wr.heap.size := Nat.lt_of_lt_of_le hbl HSI.out.bel.size

        have HHK : RowKit.Hid (k = 0 → ¬ l.getD k ⟨#[]⟩ = w_defS) := Lib.hid (fun e => by rw [e]; exact HHD.out)
        have HSTEP := Lib.hid (casesQ_step hkl HCS.out)
        have HDEAD := Lib.hid (fun h => casesQ_dead (l := l) (k := k + 1) h)
        clear hkl
        generalize l.getD (k) ⟨#[]⟩ = s at *
        have HC := Lib.hid (rone24_any s wr (by omega))
        clear hzs

        by_cases hk00 : k = 0
        · have e0 : ((k : Int) == 0) = true := by rw [beq_iff_eq]; omega
          have e1 := eqL (l := [100, 101, 102, 97, 117, 108, 116]) (HHK.out hk00) (by decide +kernel)
          clear hk00 HHK
          cases hq : caseQ s with
          | none =>
            have HV : RowKit.Hid (selQ l = none) := Lib.hid (by rw [HVS.out, HDEAD.out (by rw [HSTEP.out, hq]; rfl)]; rfl)
            unfold rone24No rone24Ok at HC
            rw [hq] at HC
            clear hq
            go_wp2_with fail
            refine HC.out.mono ?_
            rintro e w1 (⟨_, rfl, hb1⟩ | ⟨kk, h1, _⟩)
            · have HS1 := Lib.hid (HSI.out.draw (hb1.alloc hb1.size (.cells (Cse.cells Cse.none).toArray 110)))
              go_upto_region 9 with (fail)
              have hW : RowKit.Hid (w1.alloc (.cells (Cse.cells Cse.none).toArray 110) = w1.alloc (.cells #[.int .i64 Cse.none.dir, .int .i64 Cse.none.handle, .int .i64 Cse.none.value] 110)) := Lib.hid rfl
              rw [hW.out] at HS1
              clear hW hb1
              generalize (w1.alloc (.cells #[.int .i64 Cse.none.dir, .int .i64 Cse.none.handle, .int .i64 Cse.none.value] 110)) = W1 at *
              have HRZ := Lib.hid HS1.out.res
              have HBZ := Lib.hid HS1.out.bel
              go_upto_region 9 with (fail)
              refine wp_region_lit ?_
              refine wpList_buildTo rfl 24 #[] rfl (some 31) rfl (Reqr.cells ⟨0, 0, 0, false, none, 0, 0⟩).toArray (by kernel_rfl) ?_
              refine wpList_store_row rfl 24 (.tmp 2) (.tmp 31) rfl w.heap.size (Reqr.cells ⟨0, 0, 0, false, none, 0, 0⟩).toArray rfl rfl 24 (Reqr.cells ⟨0, 0, 0, false, none, 0, 0⟩).toArray HRZ.out (by kernel_rfl) (by kernel_rfl) (by kernel_rfl) ?_
              rw [setRow_self W1 w.heap.size _ _ _ HRZ.out]
              go_wp2
              refine bodyPost_ret (v := .tuple #[reqV ⟨0, 0, 0, false, none, 0, 0⟩, .bool false]) (ret_cell2 (g := w.heap.size) (v := reqV ⟨0, 0, 0, false, none, 0, 0⟩) rfl rfl rfl (req_load HRZ.out)) rfl ?_
              exact .inl ⟨HV.out, _, rfl, HBZ.out⟩

            · cases h1
          | some kk =>
            unfold rone24No rone24Ok at HC
            rw [hq] at HC HSTEP
            clear hq
            go_wp2_with fail
            refine HC.out.mono ?_
            rintro e w1 (⟨h1, _⟩ | ⟨k2, h1, rfl, hb1⟩)
            · cases h1
            injection h1 with h1
            subst h1
            have HS1 := Lib.hid (HSI.out.draw (hb1.alloc hb1.size (.cells kk.cells.toArray 110)))
            have HBX := Lib.hid (Blk.new w1 110 kk.cells)
            go_upto_region 10 with (fail)
            have hW : RowKit.Hid (w1.alloc (.cells kk.cells.toArray 110) = w1.alloc (.cells #[.int .i64 kk.dir, .int .i64 kk.handle, .int .i64 kk.value] 110)) := Lib.hid rfl
            rw [hW.out] at HS1 HBX
            clear hW hb1
            generalize (w1.alloc (.cells #[.int .i64 kk.dir, .int .i64 kk.handle, .int .i64 kk.value] 110)) = W1 at *
            generalize w1.heap.size = gb at *
            have c0 := HBX.out.cell (i := 0) rfl
            have c1 := HBX.out.cell (i := 1) rfl
            have c2 := HBX.out.cell (i := 2) rfl
            have x4 := HS1.out.blk.cell (i := 4) rfl
            have hgl := HS1.out.blk.lt
            have hgb := HBX.out.lt
            have HLC : RowKit.Hid (w.heap.size ≤ W1.heap.size) := Lib.hid HS1.out.bel.size
            go_wp2_with (at_builtin; (refine wpList_app rfl (.tmp 33) (.tmp 35) 22 110 rfl w.heap.size (cseV Cse.none) 3 24 Tryz.underlying22 CloneC_info rfl (by decide) V k cv (rows cs) rfl (own_below HS1.out.own ((Below.refl _ _).alloc (Nat.le_refl _) _)) (some ⟨W1.heap.size, 0, none⟩) 1 1 (rows [kk]) rfl (by simp) rfl (blk_new (cs := rows [kk]) rfl).rd (rows_one _) (k + 1) rfl (rows (cs ++ [kk])) (by rw [rows_append]) (by unfold maxLen; omega) (by omega) (by have := HLC.out; simp; omega) ?_); intro V3 cv3 w3 hown3 hg3 hb3; have HG3 := Lib.hid (blk_app HS1.out.own HS1.out.blk (by decide) hg3); have f4 := HG3.out.frozen 4; have y4 := HG3.out.cell (i := 4) rfl; have hg3l := HG3.out.lt; have HS3 := Lib.hid (HS1.out.app hown3 hg3))

            go_roundg (n - (k + 1))
            case measure => rw [HG.out]; omega
            case rel => exact ⟨k + 1, V3, cv3, cs ++ [kk], by omega, rfl, by go_num, HSTEP.out, HS3.out⟩
        · have e0 : ((k : Int) == 0) = false := by rw [beq_eq_false_iff_ne]; omega
          clear hk00 HHK
          cases hq : caseQ s with
          | none =>
            have HV : RowKit.Hid (selQ l = none) := Lib.hid (by rw [HVS.out, HDEAD.out (by rw [HSTEP.out, hq]; rfl)]; rfl)
            unfold rone24No rone24Ok at HC
            rw [hq] at HC
            clear hq
            go_wp2_with fail
            refine HC.out.mono ?_
            rintro e w1 (⟨_, rfl, hb1⟩ | ⟨kk, h1, _⟩)
            · have HS1 := Lib.hid (HSI.out.draw (hb1.alloc hb1.size (.cells (Cse.cells Cse.none).toArray 110)))
              go_upto_region 9 with (fail)
              have hW : RowKit.Hid (w1.alloc (.cells (Cse.cells Cse.none).toArray 110) = w1.alloc (.cells #[.int .i64 Cse.none.dir, .int .i64 Cse.none.handle, .int .i64 Cse.none.value] 110)) := Lib.hid rfl
              rw [hW.out] at HS1
              clear hW hb1
              generalize (w1.alloc (.cells #[.int .i64 Cse.none.dir, .int .i64 Cse.none.handle, .int .i64 Cse.none.value] 110)) = W1 at *
              have HRZ := Lib.hid HS1.out.res
              have HBZ := Lib.hid HS1.out.bel
              go_upto_region 9 with (fail)
              refine wp_region_lit ?_
              refine wpList_buildTo rfl 24 #[] rfl (some 31) rfl (Reqr.cells ⟨0, 0, 0, false, none, 0, 0⟩).toArray (by kernel_rfl) ?_
              refine wpList_store_row rfl 24 (.tmp 2) (.tmp 31) rfl w.heap.size (Reqr.cells ⟨0, 0, 0, false, none, 0, 0⟩).toArray rfl rfl 24 (Reqr.cells ⟨0, 0, 0, false, none, 0, 0⟩).toArray HRZ.out (by kernel_rfl) (by kernel_rfl) (by kernel_rfl) ?_
              rw [setRow_self W1 w.heap.size _ _ _ HRZ.out]
              go_wp2
              refine bodyPost_ret (v := .tuple #[reqV ⟨0, 0, 0, false, none, 0, 0⟩, .bool false]) (ret_cell2 (g := w.heap.size) (v := reqV ⟨0, 0, 0, false, none, 0, 0⟩) rfl rfl rfl (req_load HRZ.out)) rfl ?_
              exact .inl ⟨HV.out, _, rfl, HBZ.out⟩

            · cases h1
          | some kk =>
            unfold rone24No rone24Ok at HC
            rw [hq] at HC HSTEP
            clear hq
            go_wp2_with fail
            refine HC.out.mono ?_
            rintro e w1 (⟨h1, _⟩ | ⟨k2, h1, rfl, hb1⟩)
            · cases h1
            injection h1 with h1
            subst h1
            have HS1 := Lib.hid (HSI.out.draw (hb1.alloc hb1.size (.cells kk.cells.toArray 110)))
            have HBX := Lib.hid (Blk.new w1 110 kk.cells)
            go_upto_region 10 with (fail)
            have hW : RowKit.Hid (w1.alloc (.cells kk.cells.toArray 110) = w1.alloc (.cells #[.int .i64 kk.dir, .int .i64 kk.handle, .int .i64 kk.value] 110)) := Lib.hid rfl
            rw [hW.out] at HS1 HBX
            clear hW hb1
            generalize (w1.alloc (.cells #[.int .i64 kk.dir, .int .i64 kk.handle, .int .i64 kk.value] 110)) = W1 at *
            generalize w1.heap.size = gb at *
            have c0 := HBX.out.cell (i := 0) rfl
            have c1 := HBX.out.cell (i := 1) rfl
            have c2 := HBX.out.cell (i := 2) rfl
            have x4 := HS1.out.blk.cell (i := 4) rfl
            have hgl := HS1.out.blk.lt
            have hgb := HBX.out.lt
            have HLC : RowKit.Hid (w.heap.size ≤ W1.heap.size) := Lib.hid HS1.out.bel.size
            go_wp2_with (at_builtin; (refine wpList_app rfl (.tmp 33) (.tmp 35) 22 110 rfl w.heap.size (cseV Cse.none) 3 24 Tryz.underlying22 CloneC_info rfl (by decide) V k cv (rows cs) rfl (own_below HS1.out.own ((Below.refl _ _).alloc (Nat.le_refl _) _)) (some ⟨W1.heap.size, 0, none⟩) 1 1 (rows [kk]) rfl (by simp) rfl (blk_new (cs := rows [kk]) rfl).rd (rows_one _) (k + 1) rfl (rows (cs ++ [kk])) (by rw [rows_append]) (by unfold maxLen; omega) (by omega) (by have := HLC.out; simp; omega) ?_); intro V3 cv3 w3 hown3 hg3 hb3; have HG3 := Lib.hid (blk_app HS1.out.own HS1.out.blk (by decide) hg3); have f4 := HG3.out.frozen 4; have y4 := HG3.out.cell (i := 4) rfl; have hg3l := HG3.out.lt; have HS3 := Lib.hid (HS1.out.app hown3 hg3))

            go_roundg (n - (k + 1))
            case measure => rw [HG.out]; omega
            case rel => exact ⟨k + 1, V3, cv3, cs ++ [kk], by omega, rfl, by go_num, HSTEP.out, HS3.out⟩
      · obtain rfl : k = n := by omega
        have q1 : ¬ (k : Int) < (k : Int) := by omega
        have HALL : RowKit.Hid (casesQ l = some cs) := Lib.hid (by
          have := HCS.out
          rwa [List.take_of_length_le (by rw [HLN.out]; exact Nat.le_refl _)] at this)
        have hcl := (casesQ_len HALL.out).trans HLN.out
        have HCL := Lib.hid hcl
        clear hcl
        have x0 := HSI.out.blk.cell (i := 0) rfl
        have x1 := HSI.out.blk.cell (i := 1) rfl
        have x2 := HSI.out.blk.cell (i := 2) rfl
        have x3 := HSI.out.blk.cell (i := 3) rfl
        have x4 := HSI.out.blk.cell (i := 4) rfl
        have z0 := HSI.out.res.cell (i := 0) rfl
        have z1 := HSI.out.res.cell (i := 1) rfl
        have z2 := HSI.out.res.cell (i := 2) rfl
        have z3 := HSI.out.res.cell (i := 3) rfl
        have z4 := HSI.out.res.cell (i := 4) rfl
        have f0 := HSI.out.res.frozen 0
        have f1 := HSI.out.res.frozen 1
        have f2 := HSI.out.res.frozen 2
        have f3 := HSI.out.res.frozen 3
        have f4 := HSI.out.res.frozen 4
        have hgl := HSI.out.blk.lt
        have hrl := HSI.out.res.lt
        have hrg := HSI.out.low
        have hne1 : ¬ g = w.heap.size := by omega
        have hne2 : ¬ w.heap.size = g := by omega
        have HVV : RowKit.Hid (selQ l = if 1 ≤ cs.length ∧ cs.length ≤ 3 then some ⟨3, 0, 0, false, cs⟩ else none) := Lib.hid (by rw [HVS.out, HALL.out]; rfl)
        rw [HCL.out] at HVV
        have hRS := ((((HSI.out.res.set_ 0 (.int .i64 3)).set_ 1 (.int .i64 0)).set_ 2 (.int .i64 0)).set_ 3 (.bool false)).set_ 4 (.slice V k cv)
        have HRS := Lib.hid hRS
        have hown := own_above HSI.out.own
        have HRD : RowKit.Hid (Rd (((((wr.setCell ⟨w.heap.size, 0, none⟩ (.int .i64 3)).setCell ⟨w.heap.size, 1, none⟩ (.int .i64 0)).setCell ⟨w.heap.size, 2, none⟩ (.int .i64 0)).setCell ⟨w.heap.size, 3, none⟩ (.bool false)).setCell ⟨w.heap.size, 4, none⟩ (.slice V k cv)) V (rows cs)) := Lib.hid (by
          have hr := own_rd HSI.out.own
          have hap : ∀ b o, V = some ⟨b, o, none⟩ → b ≠ w.heap.size := fun b o e => by
            intro hb
            subst hb
            exact own_blk_ne HSI.out.own HSI.out.res (by decide) (by rw [e]; rfl)
          exact ((((hr.set_ hap _ _).set_ hap _ _).set_ hap _ _).set_ hap _ _).set_ hap _ _)
        have HBS := Lib.hid (((((HSI.out.bel.setCell (p := ⟨w.heap.size, 0, none⟩) (Nat.le_refl _) (.int .i64 3)).setCell (p := ⟨w.heap.size, 1, none⟩) (Nat.le_refl _) (.int .i64 0)).setCell (p := ⟨w.heap.size, 2, none⟩) (Nat.le_refl _) (.int .i64 0)).setCell (p := ⟨w.heap.size, 3, none⟩) (Nat.le_refl _) (.bool false)).setCell (p := ⟨w.heap.size, 4, none⟩) (Nat.le_refl _) (.slice V k cv))
        clear hRS hown
        by_cases hk0 : 1 ≤ k ∧ k ≤ 3
        · have HV : RowKit.Hid (selQ l = some ⟨3, 0, 0, false, cs⟩) := Lib.hid (by rw [HVV.out, if_pos hk0])
          have n6 : 1 ≤ k := by omega
          have q6 : (1 : Int) ≤ (k : Int) := by omega
          have q3 : (0 : Int) < (k : Int) := by omega
          have q4 : (k : Int) ≤ 3 := by omega
          have n3 : 0 < k := by omega
          have n4 : k ≤ 3 := by omega
          clear hk0
          go_upto_region 12 with (fail)
          go_region_held3 (fun w' => w'.cell? ⟨g, 0, none⟩ = some (.int .i64 3) ∧ w'.cell? ⟨g, 1, none⟩ = some (.int .i64 0) ∧ w'.cell? ⟨g, 2, none⟩ = some (.int .i64 0) ∧ w'.cell? ⟨g, 3, none⟩ = some (.bool false) ∧ w'.cell? ⟨g, 4, none⟩ = some (.slice V k cv)) (go_keep) (fail)
          generalize (((((wr.setCell ⟨w.heap.size, 0, none⟩ (.int .i64 3)).setCell ⟨w.heap.size, 1, none⟩ (.int .i64 0)).setCell ⟨w.heap.size, 2, none⟩ (.int .i64 0)).setCell ⟨w.heap.size, 3, none⟩ (.bool false)).setCell ⟨w.heap.size, 4, none⟩ (.slice V k cv)) = X at *
          clear x0 x1 x2 x3 x4 z0 z1 z2 z3 z4 f0 f1 f2 f3 f4
          go_wp2
          have hbs := HBS.out
          refine bodyPost_ret (v := .tuple #[reqV ⟨3, 0, 0, false, V, k, cv⟩, .bool true]) (ret_cell2 (g := w.heap.size) (v := reqV ⟨3, 0, 0, false, V, k, cv⟩) rfl rfl rfl (req_load (q := ⟨3, 0, 0, false, V, k, cv⟩) (Blk.drew HRS.out))) rfl ?_
          refine .inr ⟨⟨3, 0, 0, false, cs⟩, V, cv, HV.out, rfl, rfl, rfl, ?_, HRD.out, own_above HSI.out.own, ⟨hbs.os, hbs.tape, hbs.output, hbs.size, hbs.block⟩⟩
          rw [HCL.out]
        · have HV : RowKit.Hid (selQ l = none) := Lib.hid (by rw [HVV.out, if_neg hk0])
          by_cases hk1 : k = 0
          · exact absurd hk1 hn0
          · have n3 : 0 < k := by omega
            have n4 : ¬ k ≤ 3 := by omega
            have n6 : 1 ≤ k := by omega
            have q6 : (1 : Int) ≤ (k : Int) := by omega
            have q3 : (0 : Int) < (k : Int) := by omega
            have q4 : ¬ (k : Int) ≤ 3 := by omega
            clear hk0 hk1
            go_upto_region 12 with (fail)
            go_region_held3 (fun w' => w'.cell? ⟨g, 0, none⟩ = some (.int .i64 3) ∧ w'.cell? ⟨g, 1, none⟩ = some (.int .i64 0) ∧ w'.cell? ⟨g, 2, none⟩ = some (.int .i64 0) ∧ w'.cell? ⟨g, 3, none⟩ = some (.bool false) ∧ w'.cell? ⟨g, 4, none⟩ = some (.slice V k cv)) (go_keep) (fail)
            generalize (((((wr.setCell ⟨w.heap.size, 0, none⟩ (.int .i64 3)).setCell ⟨w.heap.size, 1, none⟩ (.int .i64 0)).setCell ⟨w.heap.size, 2, none⟩ (.int .i64 0)).setCell ⟨w.heap.size, 3, none⟩ (.bool false)).setCell ⟨w.heap.size, 4, none⟩ (.slice V k cv)) = X at *
            clear x0 x1 x2 x3 x4 z0 z1 z2 z3 z4 f0 f1 f2 f3 f4
            go_wp2
            have hbs := HBS.out
            refine bodyPost_ret (v := .tuple #[reqV ⟨3, 0, 0, false, V, k, cv⟩, .bool false]) (ret_cell2 (g := w.heap.size) (v := reqV ⟨3, 0, 0, false, V, k, cv⟩) rfl rfl rfl (req_load (q := ⟨3, 0, 0, false, V, k, cv⟩) (Blk.drew HRS.out))) rfl ?_
            exact .inl ⟨HV.out, _, rfl, ⟨hbs.os, hbs.tape, hbs.output, hbs.size, hbs.block⟩⟩


end Go.Proofs.YtalkllfgedacoaaGreatDoor
