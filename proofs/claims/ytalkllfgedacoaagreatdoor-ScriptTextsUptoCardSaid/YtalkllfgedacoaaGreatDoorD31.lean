/- A call's words, if just that call is read from them: the document's Words, walked. -/
import Derived.Test.YtalkllfgedacoaaGreatDoorD4
import Derived.Test.YtalkllfgedacoaaGreatDoorD11
import Derived.Test.YtalkllfgedacoaaGreatDoorD30
import Derived.Test.YtalkllfgedacoaaGreatDoorD19
import Derived.Test.YtalkllfgedacoaaGreatDoorD10
import Derived.Deep.CutBlock
namespace Go.Proofs.YtalkllfgedacoaaGreatDoor
open Go.RowKit Go.Sort

theorem def_start (nm : ByteArray) {cs : List Cse} : nm ++ ⟨#[32, 100, 101, 102, 97, 117, 108, 116]⟩ = sayL nm ([w_defS] ++ (cs.take 0).map kaseS) := by
  rw [show [w_defS] ++ (cs.take 0).map kaseS = [] ++ [w_defS] from rfl, sayL_snoc, sayL_nil]
  apply bytes_eq2
  simp only [bytes_app]
  simp [w_defS]

set_option maxHeartbeats 16000000 in
set_option maxRecDepth 100000 in
theorem rSay24_any (q : Reqr) (cs : List Cse) (w : World) (h : ReqAt w q cs) (hn : q.n ≤ 1048570) (hc : CallIn q cs) :
    Calls Tryz.prog 32 #[reqV q] w fun e w' => e = .returned (.string (callS q cs)) ∧ Below w.heap.size w w' := by
  have HS := Lib.hid (callS_eq hc)
  have HWAYS := Lib.hid (name_ways q cs)
  have HCI := Lib.hid hc
  have HZ := Lib.hid (say_size hc)
  have HW0 := Lib.hid (say_words hc)
  have HQ := Lib.hid h
  have HNA := Lib.hid (fun W h => rName_any q cs W h)
  have HOK := Lib.hid (args_ok hc)
  have HNO := Lib.hid (name_ok q cs)
  have HLE : RowKit.Hid ((argsS q cs).length ≤ 1048572) := Lib.hid (by have h1 := args_len q cs; have h2 := h.len; omega)
  have HX := Lib.hid (Blk.new w 24 q.cells)
  have B0 := Lib.hid ((Below.refl w.heap.size w).alloc (Nat.le_refl _) (.cells q.cells.toArray 24))
  rw [sayS_eq] at HS HW0 HZ
  clear h hc
  obtain ⟨kd, ar, vl, df, QA, qn, qc⟩ := q
  simp only at hn HCI
  generalize hnm0 : nameS ⟨kd, ar, vl, df, QA, qn, qc⟩ cs = nm at *
  generalize hag0 : argsS ⟨kd, ar, vl, df, QA, qn, qc⟩ cs = args at *
  clear hnm0 hag0
  generalize hal0 : args.length = m at *
  have HAL := Lib.hid hal0
  clear hal0
  generalize callS ⟨kd, ar, vl, df, QA, qn, qc⟩ cs = CS at *
  have hm := HLE.out
  unfold reqV
  simp only
  have HQW := Lib.hid (HQ.out.below B0.out)
  have x0 := HX.out.cell (i := 0) rfl
  have x1 := HX.out.cell (i := 1) rfl
  have x2 := HX.out.cell (i := 2) rfl
  have x3 := HX.out.cell (i := 3) rfl
  have x4 := HX.out.cell (i := 4) rfl
  have hwl0 := HX.out.lt
  go_enter Tryz.func32, Tryz.ntmps32
  go_upto_region 1 with (fail)
  have hW : RowKit.Hid (w.alloc (.cells (Reqr.cells ⟨kd, ar, vl, df, QA, qn, qc⟩).toArray 24) = w.alloc (.cells #[.int .i64 kd, .int .i64 ar, .int .i64 vl, .bool df, .slice QA qn qc] 24)) := Lib.hid rfl
  rw [hW.out] at HX B0 HQW x0 x1 x2 x3 x4 hwl0
  clear hW
  generalize w.alloc (.cells #[.int .i64 kd, .int .i64 ar, .int .i64 vl, .bool df, .slice QA qn qc] 24) = W0 at *
  have HNW := Lib.hid (HNA.out W0 HQW.out)
  unfold reqV at HNW
  simp only at HNW
  clear HNA
  go_upto_block 0 with (go_at_call 67; refine HNW.out.mono ?_; rintro e W1 ⟨rfl, hb1⟩)
  have HX1 := Lib.hid (HX.out.below hb1 hwl0)
  have B1 := Lib.hid (B0.out.trans (hb1.mono B0.out.size))
  have HQ1 := Lib.hid (HQW.out.below hb1)
  clear x0 x1 x2 x3 x4 hb1 HX HNW HQW B0 hwl0
  have x0 := HX1.out.cell (i := 0) rfl
  have x1 := HX1.out.cell (i := 1) rfl
  have x2 := HX1.out.cell (i := 2) rfl
  have x3 := HX1.out.cell (i := 3) rfl
  have x4 := HX1.out.cell (i := 4) rfl
  have hwl := HX1.out.lt
  by_cases h0 : nm = ⟨#[]⟩
  · have e_0 : (nm.toList == ([] : List UInt8)) = true := by rw [h0]; decide +kernel
    have HV : RowKit.Hid (CS = ⟨#[]⟩) := Lib.hid (by rw [HS.out, if_pos h0])
    clear h0 HS
    go_wp2
    go_ret
    exact ⟨by rw [HV.out]; rfl, B1.out⟩
  have HWAYS := Lib.hid (HWAYS.out.resolve_left h0)
  have HS : RowKit.Hid (CS = match callQ (nm :: args) with
    | none => ⟨#[]⟩
    | some r => if sameQ ⟨kd, ar, vl, df, QA, qn, qc⟩ cs r = true then sayL nm args else ⟨#[]⟩) := Lib.hid (by rw [HS.out, if_neg h0]; cases callQ (nm :: args) <;> rfl)
  clear h0
  go_cut [3] (fun s3 wx => s3 = .string (sayL nm args) ∧ Below W1.heap.size W1 wx)
  case first =>
    rcases HWAYS.out with ⟨hnm, hargs, hk3⟩ | ⟨hk3, hq1, hd1, hnn, hargs⟩ | ⟨hk3, hq1, hd1, hnn, hargs⟩ | ⟨hk7, hnm, hargs⟩ | ⟨hk8, hnm, hargs⟩ | ⟨hk9, hnm, hargs⟩ | ⟨hkk, hnn, hargs⟩
    · clear HWAYS hk3
      have e_0 : (nm.toList == ([] : List UInt8)) = false := by rw [hnm]; decide +kernel
      have e_1 : (nm.toList == [115, 101, 108, 101, 99, 116]) = true := by rw [hnm]; decide +kernel
      cases df with
      | true =>
        have HAG : RowKit.Hid (args = [w_defS] ++ cs.map kaseS) := Lib.hid hargs
        clear hargs
        have hst : nm ++ ⟨#[32, 100, 101, 102, 97, 117, 108, 116]⟩ = sayL nm ([w_defS] ++ (cs.take 0).map kaseS) := def_start nm
        have HST := Lib.hid hst
        clear hst
        have dN : ¬ 9223372036854775807 < nm.size + 8 := by have := HNO.out.1; omega
        have HSZ : RowKit.Hid (∀ k, k ≤ qn → (sayL nm ([w_defS] ++ (cs.take k).map kaseS)).size ≤ 52000000) := Lib.hid (fun k hk => by
          have h1 := sayL_size (nm := nm) (l := [w_defS] ++ (cs.take k).map kaseS) HNO.out.1 (fun x hx => by
            rcases List.mem_append.1 hx with hx | hx
            · rw [List.mem_singleton] at hx; subst hx; decide
            · obtain ⟨y, hy, rfl⟩ := List.mem_map.1 hx
              have := HCI.out.2.2 y (List.mem_of_mem_take hy)
              exact kaseS_size this.1 this.2)
          have h2 : ([w_defS] ++ (cs.take k).map kaseS).length ≤ k + 1 := by
            rw [List.length_append, List.length_map, List.length_take]
            have : ([w_defS]).length ≤ 1 := by decide
            omega
          omega)
        clear hnm
        go_wp2_with fail
        go_loopg [23, 3] qn (fun gg i s wr => ∃ k : Nat, k ≤ qn ∧ gg = qn - k ∧ i = .int .i64 k ∧ s = .string (sayL nm ([w_defS] ++ (cs.take k).map kaseS)) ∧ Below W1.heap.size W1 wr)
        case atStart => exact ⟨0, Nat.zero_le _, rfl, rfl, by rw [← HST.out], Below.refl _ _⟩
        case round =>
          obtain ⟨k, hk, hg, rfl, rfl, hb⟩ := hrel
          have HG := Lib.hid hg
          have HB := Lib.hid hb
          clear hg hb
          by_cases hlt : k < qn
          · have q1 : (k : Int) < (qn : Int) := by omega
            have hkl : k < cs.length := by rw [HQ1.out.len]; exact hlt
            have hrd := HQ1.out.rd.below HB.out
            obtain ⟨b2, o2, hA, hbl, hcl⟩ := hrd.at_ (by rw [rows_length]; exact Nat.mul_pos (by omega) (by decide))
            subst hA
            obtain ⟨y0, y1, y2⟩ := cse_cells hcl hkl rfl
            have HIN := Lib.hid (HCI.out.2.2 (cs.getD k Cse.none) (by rw [List.getD, List.getElem?_eq_getElem hkl]; exact List.getElem_mem hkl))
            have hS0 := HSZ.out k hk
            have HTK : RowKit.Hid (sayL nm ([w_defS] ++ (cs.take (k + 1)).map kaseS) = sayL nm ([w_defS] ++ (cs.take k).map kaseS) ++ ⟨#[32]⟩ ++ kaseS (cs.getD k Cse.none)) := Lib.hid (by
              rw [List.take_succ_eq_append_getElem hkl, List.map_append, ← List.append_assoc, ← sayL_snoc]
              congr 2
              rw [List.getD, List.getElem?_eq_getElem hkl]
              rfl)
            clear hcl hrd hkl
            generalize cs.getD k Cse.none = x at *
            generalize sayL nm ([w_defS] ++ (cs.take k).map kaseS) = S at *
            obtain ⟨xd, xh, xv⟩ := x
            simp only at y0 y1 y2 HIN
            have HI1 := Lib.hid (fun W => rItoa_any xh HIN.out.1 W)
            have HI2 := Lib.hid (fun W => rItoa_any xv HIN.out.2 W)
            have hz1 := itoaS_size HIN.out.1
            have hz2 := itoaS_size HIN.out.2
            have HKS := Lib.hid (fun h => kase_send S (k := ⟨xd, xh, xv⟩) h)
            have HKR := Lib.hid (fun h => kase_recv S (k := ⟨xd, xh, xv⟩) h)
            simp only at HKS HKR
            generalize itoaS xh = z1 at *
            generalize itoaS xv = z2 at *
            generalize kaseS ⟨xd, xh, xv⟩ = KS at *
            by_cases hdir : xd = 1
            · have HKS := Lib.hid (HKS.out hdir)
              have q2 : (xd == 1) = true := by simp [hdir]
              have dS0 : ¬ 9223372036854775807 < S.size + 6 := by omega
              have dS1 : ¬ 9223372036854775807 < S.size + 6 + z1.size := by omega
              have dS2 : ¬ 9223372036854775807 < S.size + 6 + z1.size + 1 := by omega
              have dS3 : ¬ 9223372036854775807 < S.size + 6 + z1.size + 1 + z2.size := by omega
              clear hdir HKR hS0 hz1 hz2
              go_upto_region 11 with (fail)
              have hbx : Blk (wr.alloc (.cells #[.int .i64 xd, .int .i64 xh, .int .i64 xv] 110)) wr.heap.size 110 [.int .i64 xd, .int .i64 xh, .int .i64 xv] := Blk.new wr _ _
              have HBA := Lib.hid (HB.out.alloc HB.out.size (.cells #[.int .i64 xd, .int .i64 xh, .int .i64 xv] 110))
              generalize wr.alloc (.cells #[.int .i64 xd, .int .i64 xh, .int .i64 xv] 110) = WA at *
              generalize wr.heap.size = br at *
              have y5 := hbx.cell (i := 1) rfl
              have y6 := hbx.cell (i := 2) rfl
              have hgl := hbx.lt
              have HBX := Lib.hid hbx
              clear hbx
              go_region_held3 (fun w' => w'.cell? ⟨br, 1, none⟩ = some (.int .i64 xh) ∧ w'.cell? ⟨br, 2, none⟩ = some (.int .i64 xv)) (first | go_keep | (simp only [hk01]; go_keep) | (simp only [hk02]; go_keep)) (first
                | (go_at_call 68; (with_reducible refine (HI1.out WA.drew).mono ?_); rintro er v1 ⟨rfl, hb1⟩; have hB1 : Below WA.heap.size WA v1 := ⟨hb1.os, hb1.tape, hb1.output, hb1.size, hb1.block⟩; have hk01 := fun o => hB1.cell (p := ⟨br, o, none⟩) hgl)
                | (go_at_call 68; (with_reducible refine (HI2.out v1).mono ?_); rintro er v2 ⟨rfl, hb2⟩; have hB2 : Below WA.heap.size WA v2 := hB1.trans (hb2.mono hB1.size); have hk02 := fun o => hB2.cell (p := ⟨br, o, none⟩) hgl))

              have HB2 := Lib.hid (HBA.out.trans (hB2.mono HBA.out.size))
              go_wp2_with fail
              go_roundg (qn - (k + 1))
              case measure => rw [HG.out]; omega
              case rel => exact ⟨k + 1, by omega, rfl, by go_num, by rw [HTK.out, ← HKS.out], HB2.out⟩
            · have HKR := Lib.hid (HKR.out hdir)
              have q2 : (xd == 1) = false := by simp [hdir]
              have dS0 : ¬ 9223372036854775807 < S.size + 6 := by omega
              have dS1 : ¬ 9223372036854775807 < S.size + 6 + z1.size := by omega
              clear hdir HKS hS0 hz1 hz2
              go_wp2_with (first
                | (go_at_call 68; refine (HI1.out _).mono ?_; rintro er w2 ⟨rfl, hb2⟩; have HB2 := Lib.hid (((Below.refl wr.heap.size wr).alloc (Nat.le_refl _) _).trans (hb2.mono (by simp))); clear hb2))
              have HB3 := Lib.hid (HB.out.trans (HB2.out.mono HB.out.size))
              go_roundg (qn - (k + 1))
              case measure => rw [HG.out]; omega
              case rel => exact ⟨k + 1, by omega, rfl, by go_num, by rw [HTK.out, ← HKR.out], HB3.out⟩
          · obtain rfl : k = qn := by omega
            have q1 : ¬ (k : Int) < (k : Int) := by omega
            have HF : RowKit.Hid (args = [w_defS] ++ (cs.take k).map kaseS) := Lib.hid (by rw [HAG.out, List.take_of_length_le (by rw [HQ1.out.len]; exact Nat.le_refl _)])
            go_wp2_with fail
            go_meet
            exact ⟨by rw [HF.out]; simp, HB.out⟩

      | false =>
        have HAG : RowKit.Hid (args = [] ++ cs.map kaseS) := Lib.hid hargs
        clear hargs
        have HST : RowKit.Hid (nm = sayL nm ([] ++ (cs.take 0).map kaseS)) := Lib.hid (sayL_nil nm).symm
        have HSZ : RowKit.Hid (∀ k, k ≤ qn → (sayL nm (([] : List ByteArray) ++ (cs.take k).map kaseS)).size ≤ 52000000) := Lib.hid (fun k hk => by
          have h1 := sayL_size (nm := nm) (l := ([] : List ByteArray) ++ (cs.take k).map kaseS) HNO.out.1 (fun x hx => by
            rcases List.mem_append.1 hx with hx | hx
            · cases hx
            · obtain ⟨y, hy, rfl⟩ := List.mem_map.1 hx
              have := HCI.out.2.2 y (List.mem_of_mem_take hy)
              exact kaseS_size this.1 this.2)
          have h2 : (([] : List ByteArray) ++ (cs.take k).map kaseS).length ≤ k + 1 := by
            rw [List.length_append, List.length_map, List.length_take]
            have : (([] : List ByteArray)).length ≤ 1 := by decide
            omega
          omega)
        clear hnm
        go_wp2_with fail
        go_loopg [23, 3] qn (fun gg i s wr => ∃ k : Nat, k ≤ qn ∧ gg = qn - k ∧ i = .int .i64 k ∧ s = .string (sayL nm (([] : List ByteArray) ++ (cs.take k).map kaseS)) ∧ Below W1.heap.size W1 wr)
        case atStart => exact ⟨0, Nat.zero_le _, rfl, rfl, congrArg Value.string HST.out, Below.refl _ _⟩
        case round =>
          obtain ⟨k, hk, hg, rfl, rfl, hb⟩ := hrel
          have HG := Lib.hid hg
          have HB := Lib.hid hb
          clear hg hb
          by_cases hlt : k < qn
          · have q1 : (k : Int) < (qn : Int) := by omega
            have hkl : k < cs.length := by rw [HQ1.out.len]; exact hlt
            have hrd := HQ1.out.rd.below HB.out
            obtain ⟨b2, o2, hA, hbl, hcl⟩ := hrd.at_ (by rw [rows_length]; exact Nat.mul_pos (by omega) (by decide))
            subst hA
            obtain ⟨y0, y1, y2⟩ := cse_cells hcl hkl rfl
            have HIN := Lib.hid (HCI.out.2.2 (cs.getD k Cse.none) (by rw [List.getD, List.getElem?_eq_getElem hkl]; exact List.getElem_mem hkl))
            have hS0 := HSZ.out k hk
            have HTK : RowKit.Hid (sayL nm (([] : List ByteArray) ++ (cs.take (k + 1)).map kaseS) = sayL nm (([] : List ByteArray) ++ (cs.take k).map kaseS) ++ ⟨#[32]⟩ ++ kaseS (cs.getD k Cse.none)) := Lib.hid (by
              rw [List.take_succ_eq_append_getElem hkl, List.map_append, ← List.append_assoc, ← sayL_snoc]
              congr 2
              rw [List.getD, List.getElem?_eq_getElem hkl]
              rfl)
            clear hcl hrd hkl
            generalize cs.getD k Cse.none = x at *
            generalize sayL nm (([] : List ByteArray) ++ (cs.take k).map kaseS) = S at *
            obtain ⟨xd, xh, xv⟩ := x
            simp only at y0 y1 y2 HIN
            have HI1 := Lib.hid (fun W => rItoa_any xh HIN.out.1 W)
            have HI2 := Lib.hid (fun W => rItoa_any xv HIN.out.2 W)
            have hz1 := itoaS_size HIN.out.1
            have hz2 := itoaS_size HIN.out.2
            have HKS := Lib.hid (fun h => kase_send S (k := ⟨xd, xh, xv⟩) h)
            have HKR := Lib.hid (fun h => kase_recv S (k := ⟨xd, xh, xv⟩) h)
            simp only at HKS HKR
            generalize itoaS xh = z1 at *
            generalize itoaS xv = z2 at *
            generalize kaseS ⟨xd, xh, xv⟩ = KS at *
            by_cases hdir : xd = 1
            · have HKS := Lib.hid (HKS.out hdir)
              have q2 : (xd == 1) = true := by simp [hdir]
              have dS0 : ¬ 9223372036854775807 < S.size + 6 := by omega
              have dS1 : ¬ 9223372036854775807 < S.size + 6 + z1.size := by omega
              have dS2 : ¬ 9223372036854775807 < S.size + 6 + z1.size + 1 := by omega
              have dS3 : ¬ 9223372036854775807 < S.size + 6 + z1.size + 1 + z2.size := by omega
              clear hdir HKR hS0 hz1 hz2
              go_upto_region 11 with (fail)
              have hbx : Blk (wr.alloc (.cells #[.int .i64 xd, .int .i64 xh, .int .i64 xv] 110)) wr.heap.size 110 [.int .i64 xd, .int .i64 xh, .int .i64 xv] := Blk.new wr _ _
              have HBA := Lib.hid (HB.out.alloc HB.out.size (.cells #[.int .i64 xd, .int .i64 xh, .int .i64 xv] 110))
              generalize wr.alloc (.cells #[.int .i64 xd, .int .i64 xh, .int .i64 xv] 110) = WA at *
              generalize wr.heap.size = br at *
              have y5 := hbx.cell (i := 1) rfl
              have y6 := hbx.cell (i := 2) rfl
              have hgl := hbx.lt
              have HBX := Lib.hid hbx
              clear hbx
              go_region_held3 (fun w' => w'.cell? ⟨br, 1, none⟩ = some (.int .i64 xh) ∧ w'.cell? ⟨br, 2, none⟩ = some (.int .i64 xv)) (first | go_keep | (simp only [hk01]; go_keep) | (simp only [hk02]; go_keep)) (first
                | (go_at_call 68; (with_reducible refine (HI1.out WA.drew).mono ?_); rintro er v1 ⟨rfl, hb1⟩; have hB1 : Below WA.heap.size WA v1 := ⟨hb1.os, hb1.tape, hb1.output, hb1.size, hb1.block⟩; have hk01 := fun o => hB1.cell (p := ⟨br, o, none⟩) hgl)
                | (go_at_call 68; (with_reducible refine (HI2.out v1).mono ?_); rintro er v2 ⟨rfl, hb2⟩; have hB2 : Below WA.heap.size WA v2 := hB1.trans (hb2.mono hB1.size); have hk02 := fun o => hB2.cell (p := ⟨br, o, none⟩) hgl))

              have HB2 := Lib.hid (HBA.out.trans (hB2.mono HBA.out.size))
              go_wp2_with fail
              go_roundg (qn - (k + 1))
              case measure => rw [HG.out]; omega
              case rel => exact ⟨k + 1, by omega, rfl, by go_num, by rw [HTK.out, ← HKS.out], HB2.out⟩
            · have HKR := Lib.hid (HKR.out hdir)
              have q2 : (xd == 1) = false := by simp [hdir]
              have dS0 : ¬ 9223372036854775807 < S.size + 6 := by omega
              have dS1 : ¬ 9223372036854775807 < S.size + 6 + z1.size := by omega
              clear hdir HKS hS0 hz1 hz2
              go_wp2_with (first
                | (go_at_call 68; refine (HI1.out _).mono ?_; rintro er w2 ⟨rfl, hb2⟩; have HB2 := Lib.hid (((Below.refl wr.heap.size wr).alloc (Nat.le_refl _) _).trans (hb2.mono (by simp))); clear hb2))
              have HB3 := Lib.hid (HB.out.trans (HB2.out.mono HB.out.size))
              go_roundg (qn - (k + 1))
              case measure => rw [HG.out]; omega
              case rel => exact ⟨k + 1, by omega, rfl, by go_num, by rw [HTK.out, ← HKR.out], HB3.out⟩
          · obtain rfl : k = qn := by omega
            have q1 : ¬ (k : Int) < (k : Int) := by omega
            have HF : RowKit.Hid (args = ([] : List ByteArray) ++ (cs.take k).map kaseS) := Lib.hid (by rw [HAG.out, List.take_of_length_le (by rw [HQ1.out.len]; exact Nat.le_refl _)])
            go_wp2_with fail
            go_meet
            exact ⟨by rw [HF.out]; simp, HB.out⟩
    · have e_0 : (nm.toList == ([] : List UInt8)) = false := by rcases hnn with h | h <;> rw [h] <;> decide +kernel
      have e_1 : (nm.toList == [115, 101, 108, 101, 99, 116]) = false := by rcases hnn with h | h <;> rw [h] <;> decide +kernel
      have hnm := True.intro
      clear hnn
      obtain ⟨b2, o2, hA, hbc, hcl⟩ := HQ1.out.rd.at_ (by rw [rows_length, HQ1.out.len]; exact Nat.mul_pos (by show 0 < qn; omega) (by decide))
      subst hA
      obtain ⟨y0, y1, y2⟩ := cse_cells hcl (k := 0) (by rw [HQ1.out.len]; show 0 < qn; omega) rfl
      have HI := Lib.hid HCI.out.one
      rw [Nat.zero_mul, Nat.add_zero] at y0 y1 y2
      have HAG := Lib.hid hargs
      clear hcl hargs HWAYS
      subst hq1 hk3
      generalize cs.getD 0 Cse.none = x at *
      obtain ⟨xd, xh, xv⟩ := x
      simp only at y0 y1 y2 HI HAG hd1
      have HI1 := Lib.hid (fun W => rItoa_any xh HI.out.1 W)
      have HI2 := Lib.hid (fun W => rItoa_any xv HI.out.2 W)
      have hz1 := itoaS_size HI.out.1
      have hz2 := itoaS_size HI.out.2
      generalize itoaS xh = z1 at *
      generalize itoaS xv = z2 at *
      have q2 : (xd == 1) = true := by simp [hd1]
      have dN0 : ¬ 9223372036854775807 < nm.size + 1 := by have := HNO.out.1; omega
      have dN1 : ¬ 9223372036854775807 < nm.size + 1 + z1.size := by have := HNO.out.1; omega
      have dN2 : ¬ 9223372036854775807 < nm.size + 1 + z1.size + 1 := by have := HNO.out.1; omega
      have dN3 : ¬ 9223372036854775807 < nm.size + 1 + z1.size + 1 + z2.size := by have := HNO.out.1; omega
      have HF : RowKit.Hid (nm ++ ⟨#[32]⟩ ++ z1 ++ ⟨#[32]⟩ ++ z2 = sayL nm [z1, z2]) := Lib.hid (by rw [show [z1, z2] = ([] ++ [z1]) ++ [z2] from rfl, sayL_snoc, sayL_snoc, sayL_nil])
      clear hnm hd1 hz1 hz2
      go_upto_region 16 with (first
        | (go_at_call 68; refine (HI1.out _).mono ?_; rintro er w2 ⟨rfl, hb2⟩; have HB2 := Lib.hid hb2; clear hb2))
      have z0 := (HB2.out.cell (p := ⟨b2, o2, none⟩) hbc).trans y0
      have z3 := (HB2.out.cell (p := ⟨b2, o2 + 2, none⟩) hbc).trans y2
      have z4 := (HB2.out.cell (p := ⟨w.heap.size, 4, none⟩) hwl).trans x4
      go_wp2_with (first
        | (go_at_call 68; refine (HI2.out _).mono ?_; rintro er w3 ⟨rfl, hb3⟩; have HB3 := Lib.hid (HB2.out.trans (hb3.mono HB2.out.size)); clear hb3))
      go_meet
      exact ⟨by rw [HAG.out, ← HF.out], HB3.out⟩
    · have e_0 : (nm.toList == ([] : List UInt8)) = false := by rcases hnn with h | h <;> rw [h] <;> decide +kernel
      have e_1 : (nm.toList == [115, 101, 108, 101, 99, 116]) = false := by rcases hnn with h | h <;> rw [h] <;> decide +kernel
      have hnm := True.intro
      clear hnn
      obtain ⟨b2, o2, hA, hbc, hcl⟩ := HQ1.out.rd.at_ (by rw [rows_length, HQ1.out.len]; exact Nat.mul_pos (by show 0 < qn; omega) (by decide))
      subst hA
      obtain ⟨y0, y1, y2⟩ := cse_cells hcl (k := 0) (by rw [HQ1.out.len]; show 0 < qn; omega) rfl
      have HI := Lib.hid HCI.out.one
      rw [Nat.zero_mul, Nat.add_zero] at y0 y1 y2
      have HAG := Lib.hid hargs
      clear hcl hargs HWAYS
      subst hq1 hk3
      generalize cs.getD 0 Cse.none = x at *
      obtain ⟨xd, xh, xv⟩ := x
      simp only at y0 y1 y2 HI HAG hd1
      have HI1 := Lib.hid (fun W => rItoa_any xh HI.out.1 W)
      have HI2 := Lib.hid (fun W => rItoa_any xv HI.out.2 W)
      have hz1 := itoaS_size HI.out.1
      have hz2 := itoaS_size HI.out.2
      generalize itoaS xh = z1 at *
      generalize itoaS xv = z2 at *
      have q2 : (xd == 1) = false := by simp [hd1]
      have dN0 : ¬ 9223372036854775807 < nm.size + 1 := by have := HNO.out.1; omega
      have dN1 : ¬ 9223372036854775807 < nm.size + 1 + z1.size := by have := HNO.out.1; omega
      have HF : RowKit.Hid (nm ++ ⟨#[32]⟩ ++ z1 = sayL nm [z1]) := Lib.hid (by rw [← List.nil_append [z1], sayL_snoc, sayL_nil])
      clear hnm hd1 hz1 hz2
      go_upto_region 16 with (first
        | (go_at_call 68; refine (HI1.out _).mono ?_; rintro er w2 ⟨rfl, hb2⟩; have HB2 := Lib.hid hb2; clear hb2))
      have z0 := (HB2.out.cell (p := ⟨b2, o2, none⟩) hbc).trans y0
      have z4 := (HB2.out.cell (p := ⟨w.heap.size, 4, none⟩) hwl).trans x4
      go_wp2_with fail
      go_meet
      exact ⟨by rw [HAG.out, ← HF.out], HB2.out⟩
    · have e_0 : (nm.toList == ([] : List UInt8)) = false := by rw [hnm]; decide +kernel
      have e_1 : (nm.toList == [115, 101, 108, 101, 99, 116]) = false := by rw [hnm]; decide +kernel
      have HAG := Lib.hid hargs
      clear hargs HWAYS
      subst hk7
      have HI1 := Lib.hid (fun W => rItoa_any ar HCI.out.1 W)
      have HI2 := Lib.hid (fun W => rItoa_any vl HCI.out.2.1 W)
      have hz1 := itoaS_size HCI.out.1
      have hz2 := itoaS_size HCI.out.2.1
      generalize itoaS ar = z1 at *
      generalize itoaS vl = z2 at *
      have dN0 : ¬ 9223372036854775807 < nm.size + 1 := by have := HNO.out.1; omega
      have dN1 : ¬ 9223372036854775807 < nm.size + 1 + z1.size := by have := HNO.out.1; omega
      have dN2 : ¬ 9223372036854775807 < nm.size + 1 + z1.size + 1 := by have := HNO.out.1; omega
      have dN3 : ¬ 9223372036854775807 < nm.size + 1 + z1.size + 1 + z2.size := by have := HNO.out.1; omega
      have HF : RowKit.Hid (nm ++ ⟨#[32]⟩ ++ z1 ++ ⟨#[32]⟩ ++ z2 = sayL nm [z1, z2]) := Lib.hid (by rw [show [z1, z2] = ([] ++ [z1]) ++ [z2] from rfl, sayL_snoc, sayL_snoc, sayL_nil])
      clear hnm hz1 hz2
      go_upto_region 19 with (fail)
      go_region_held3 (fun w' => w'.cell? ⟨w.heap.size, 1, none⟩ = some (.int .i64 ar) ∧ w'.cell? ⟨w.heap.size, 2, none⟩ = some (.int .i64 vl)) (first | go_keep | (simp only [hk01]; go_keep) | (simp only [hk02]; go_keep)) (first
        | (go_at_call 68; (with_reducible refine (HI1.out W1.drew).mono ?_); rintro er v1 ⟨rfl, hb1⟩; have hB1 : Below W1.heap.size W1 v1 := ⟨hb1.os, hb1.tape, hb1.output, hb1.size, hb1.block⟩; have hk01 := fun o => hB1.cell (p := ⟨w.heap.size, o, none⟩) hwl)
        | (go_at_call 68; (with_reducible refine (HI2.out v1).mono ?_); rintro er v2 ⟨rfl, hb2⟩; have hB2 : Below W1.heap.size W1 v2 := hB1.trans (hb2.mono hB1.size); have hk02 := fun o => hB2.cell (p := ⟨w.heap.size, o, none⟩) hwl))
      have HB4 := Lib.hid hB2
      go_wp2_with fail
      go_meet
      exact ⟨by rw [HAG.out, ← HF.out], HB4.out⟩
    · have e_0 : (nm.toList == ([] : List UInt8)) = false := by rw [hnm]; decide +kernel
      have e_1 : (nm.toList == [115, 101, 108, 101, 99, 116]) = false := by rw [hnm]; decide +kernel
      have HAG := Lib.hid hargs
      clear hargs HWAYS
      subst hk8
      have HI1 := Lib.hid (fun W => rItoa_any vl HCI.out.2.1 W)
      have hz1 := itoaS_size HCI.out.2.1
      generalize itoaS vl = z1 at *
      have dN0 : ¬ 9223372036854775807 < nm.size + 1 := by have := HNO.out.1; omega
      have dN1 : ¬ 9223372036854775807 < nm.size + 1 + z1.size := by have := HNO.out.1; omega
      have HF : RowKit.Hid (nm ++ ⟨#[32]⟩ ++ z1 = sayL nm [z1]) := Lib.hid (by rw [← List.nil_append [z1], sayL_snoc, sayL_nil])
      clear hnm
      go_wp2_with (go_at_call 68; refine (HI1.out _).mono ?_; rintro er w2 ⟨rfl, hb2⟩; have HB2 := Lib.hid hb2; clear hb2)
      go_meet
      exact ⟨by rw [HAG.out, ← HF.out], HB2.out⟩
    · have e_0 : (nm.toList == ([] : List UInt8)) = false := by rw [hnm]; decide +kernel
      have e_1 : (nm.toList == [115, 101, 108, 101, 99, 116]) = false := by rw [hnm]; decide +kernel
      have HAG := Lib.hid hargs
      clear hargs HWAYS
      subst hk9
      have HF : RowKit.Hid (nm = sayL nm []) := Lib.hid (sayL_nil nm).symm
      clear hnm
      go_wp2_with fail
      go_meet
      exact ⟨by rw [HAG.out, ← HF.out], Below.refl _ _⟩
    · have e_0 : (nm.toList == ([] : List UInt8)) = false := by rcases hnn with h | h | h | h | h <;> rw [h] <;> decide +kernel
      have e_1 : (nm.toList == [115, 101, 108, 101, 99, 116]) = false := by rcases hnn with h | h | h | h | h <;> rw [h] <;> decide +kernel
      have hnm := True.intro
      have HAG := Lib.hid hargs
      obtain ⟨g3, g7, g8, g9⟩ := hkk
      have q3 : (kd == 3) = false := by simp [g3]
      have q7 : (kd == 7) = false := by simp [g7]
      have q8 : (kd == 8) = false := by simp [g8]
      have q9 : (kd == 9) = false := by simp [g9]
      clear hargs HWAYS hnn g3 g7 g8 g9
      have HI1 := Lib.hid (fun W => rItoa_any ar HCI.out.1 W)
      have hz1 := itoaS_size HCI.out.1
      generalize itoaS ar = z1 at *
      have dN0 : ¬ 9223372036854775807 < nm.size + 1 := by have := HNO.out.1; omega
      have dN1 : ¬ 9223372036854775807 < nm.size + 1 + z1.size := by have := HNO.out.1; omega
      have HF : RowKit.Hid (nm ++ ⟨#[32]⟩ ++ z1 = sayL nm [z1]) := Lib.hid (by rw [← List.nil_append [z1], sayL_snoc, sayL_nil])
      clear hnm
      go_wp2_with (go_at_call 68; refine (HI1.out _).mono ?_; rintro er w2 ⟨rfl, hb2⟩; have HB2 := Lib.hid hb2; clear hb2)
      go_meet
      exact ⟨by rw [HAG.out, ← HF.out], HB2.out⟩

  case rest =>
    obtain ⟨rfl, hb⟩ := hcut
    have HX2 := Lib.hid (HX1.out.below hb hwl)
    have HQ2 := Lib.hid (HQ1.out.below hb)
    have BW2 := Lib.hid (B1.out.trans (hb.mono B1.out.size))
    clear hb
    have HSP : RowKit.Hid (∀ W, Calls Tryz.prog 49 #[.string (sayL nm args), .int .u8 32] W fun e w' => ∃ L cp, e = .returned (.slice (some ⟨L, 0, none⟩) (m + 1) cp) ∧ m + 1 ≤ cp ∧ Rd w' (some ⟨L, 0, none⟩) (rows (nm :: args)) ∧ Below W.heap.size W w') := Lib.hid (fun W => by
      refine (rSplitC_any 32 (sayL nm args) W (by have := HZ.out; have h2 := HQ.out.len; simp only at h2; omega)).mono ?_
      rintro e w' ⟨L, cp, h1, h2, h3, h4, h5⟩
      rw [HW0.out, List.length_cons, HAL.out] at h1 h2
      rw [HW0.out] at h4
      exact ⟨L, cp, h1, h2, h4, h5⟩)
    have HCL : RowKit.Hid (∀ W L cp, m + 1 ≤ cp → Rd W (some ⟨L, 0, none⟩) (rows (nm :: args)) → Calls Tryz.prog 69 #[.slice (some ⟨L, 0, none⟩) (m + 1) cp] W fun e w' => CallNo (nm :: args) W e w' ∨ CallOk (nm :: args) W e w') := Lib.hid (fun W L cp h1 h2 => rCall_any _ (m + 1) cp (nm :: args) W (by rw [List.length_cons, HAL.out]) (by omega) h1 h2 (by
      intro x hx
      rcases List.mem_cons.1 hx with rfl | hx
      · have := HNO.out.1; omega
      · have := (HOK.out x hx).1; omega))
    generalize hsy : sayL nm args = sy at *
    clear hsy
    unfold CallNo CallOk at HCL
    clear x0 x1 x2 x3 x4
    have x0 := HX2.out.cell (i := 0) rfl
    go_upto_region 25 with (first
      | (go_at_call 49; refine (HSP.out wc).mono ?_; rintro e w5 ⟨L, cp, rfl, hle, hrd, hb5⟩; have HLE5 := Lib.hid hle; have HRD5 := Lib.hid hrd; have HB5 := Lib.hid hb5; clear hle hrd hb5)
      | (go_at_call 69; refine (HCL.out w5 L cp HLE5.out HRD5.out).mono ?_; rintro e w6 (⟨hcq, q9, rfl, hb6⟩ | ⟨r, A6, c6, hcq, rfl, hrd6, _, hb6⟩)))
    · have HV : RowKit.Hid (CS = ⟨#[]⟩) := Lib.hid (by rw [HS.out, hcq])
      have B6 := Lib.hid (BW2.out.trans ((HB5.out.trans (hb6.mono HB5.out.size)).mono BW2.out.size))
      clear hcq hb6 HS
      go_wp2
      go_ret
      exact ⟨by rw [HV.out]; rfl, B6.out.alloc B6.out.size _⟩
    · have HV : RowKit.Hid (CS = if sameQ ⟨kd, ar, vl, df, QA, qn, qc⟩ cs r = true then sy else ⟨#[]⟩) := Lib.hid (by rw [HS.out, hcq])
      have B6 := Lib.hid (BW2.out.trans ((HB5.out.trans (hb6.mono HB5.out.size)).mono BW2.out.size))
      have X6 := Lib.hid (HX2.out.below (HB5.out.trans (hb6.mono HB5.out.size)) HX2.out.lt)
      have Q6 := Lib.hid (HQ2.out.below (HB5.out.trans (hb6.mono HB5.out.size)))
      have hcl3 := callQ_len hcq
      obtain ⟨k2, a2, v2, d2, cs2⟩ := r
      simp only at hrd6 hcl3 HV
      generalize hrn : cs2.length = rn at *
      have HRN := Lib.hid hrn
      have P6 := Lib.hid (show ReqAt w6 ⟨k2, a2, v2, d2, A6, rn, c6⟩ cs2 from ⟨hrn, hrd6⟩)
      clear hcq hb6 HS hrn hrd6 x0
      have HB2X := Lib.hid (Blk.new w6 24 (Reqr.cells ⟨k2, a2, v2, d2, A6, rn, c6⟩))
      have B7 := Lib.hid (B6.out.alloc B6.out.size (.cells (Reqr.cells ⟨k2, a2, v2, d2, A6, rn, c6⟩).toArray 24))
      have X7 := Lib.hid (X6.out.alloc (.cells (Reqr.cells ⟨k2, a2, v2, d2, A6, rn, c6⟩).toArray 24))
      have Q7 := Lib.hid (Q6.out.below ((Below.refl w6.heap.size w6).alloc (Nat.le_refl _) (.cells (Reqr.cells ⟨k2, a2, v2, d2, A6, rn, c6⟩).toArray 24)))
      have P7 := Lib.hid (P6.out.below ((Below.refl w6.heap.size w6).alloc (Nat.le_refl _) (.cells (Reqr.cells ⟨k2, a2, v2, d2, A6, rn, c6⟩).toArray 24)))
      have hW : RowKit.Hid (w6.alloc (.cells (Reqr.cells ⟨k2, a2, v2, d2, A6, rn, c6⟩).toArray 24) = w6.alloc (.cells #[.int .i64 k2, .int .i64 a2, .int .i64 v2, .bool d2, .slice A6 rn c6] 24)) := Lib.hid rfl
      rw [hW.out] at HB2X B7 X7 Q7 P7
      clear hW
      generalize w6.alloc (.cells #[.int .i64 k2, .int .i64 a2, .int .i64 v2, .bool d2, .slice A6 rn c6] 24) = W7 at *
      generalize w6.heap.size = b7 at *
      have y0 := HB2X.out.cell (i := 0) rfl
      have y1 := HB2X.out.cell (i := 1) rfl
      have y2 := HB2X.out.cell (i := 2) rfl
      have y3 := HB2X.out.cell (i := 3) rfl
      have y4 := HB2X.out.cell (i := 4) rfl
      have x0 := X7.out.cell (i := 0) rfl
      have x1 := X7.out.cell (i := 1) rfl
      have x2 := X7.out.cell (i := 2) rfl
      have x3 := X7.out.cell (i := 3) rfl
      have x4 := X7.out.cell (i := 4) rfl
      have HSM := Lib.hid (rsame24_any ⟨k2, a2, v2, d2, A6, rn, c6⟩ ⟨kd, ar, vl, df, QA, qn, qc⟩ cs2 cs W7 (by simp only; omega) (by simp only; omega) P7.out Q7.out)
      have HSQ : RowKit.Hid (sameQ ⟨kd, ar, vl, df, QA, qn, qc⟩ cs ⟨k2, a2, v2, d2, cs2⟩ = (k2 == kd && a2 == ar && v2 == vl && d2 == df && cs2 == cs)) := Lib.hid rfl
      unfold reqV at HSM
      simp only at HSM
      rw [HSQ.out] at HV
      generalize (k2 == kd && a2 == ar && v2 == vl && d2 == df && cs2 == cs) = bb at *
      clear HSQ P7 Q7 P6 Q6 HRN
      cases bb with
      | true =>
        go_wp2_with (go_at_call 70; refine HSM.out.mono ?_; rintro e w8 ⟨rfl, hb8⟩)
        go_ret
        exact ⟨by rw [HV.out]; rfl, B7.out.trans (hb8.mono B7.out.size)⟩
      | false =>
        go_wp2_with (go_at_call 70; refine HSM.out.mono ?_; rintro e w8 ⟨rfl, hb8⟩)
        go_ret
        exact ⟨by rw [HV.out]; rfl, B7.out.trans (hb8.mono B7.out.size)⟩


end Go.Proofs.YtalkllfgedacoaaGreatDoor
