/- A call's words, if just that call is read from them: script.Call, walked. -/
import Derived.Test.YtalkllfgedacoaaGreatDoorD4
import Derived.Test.YtalkllfgedacoaaGreatDoorD22
import Derived.Test.YtalkllfgedacoaaGreatDoorD8
import Derived.Test.YtalkllfgedacoaaGreatDoorD10
import Derived.Deep.CutBlock
namespace Go.Proofs.YtalkllfgedacoaaGreatDoor
open Go.RowKit Go.Sort

theorem join_own {W : World} {base n c : Nat} {A : Option Addr} {l : List ByteArray} (hown : W.ownsRow base 9 1 (.slice A n c) n (rows l)) (hn : 0 < n) (hl : l.length = n) (hN : n ≤ 140737488355328) (hlen : (Lib.join (l.map (·.data.toList)) [32]).length ≤ 140737488355328) :
    Calls Tryz.prog 33 #[.slice A n c, .string ⟨#[32]⟩] W fun e w' => e = .returned (.string ⟨(Lib.join (l.map (·.data.toList)) [32]).toArray⟩) ∧ Below W.heap.size W w' := by
  obtain ⟨g, rfl, _, hg⟩ := own_some hown hn
  have hle := own_le hown
  obtain ⟨b, o, hA, hb, hc⟩ := strs_cell (own_rd hown) (fun e => by rw [e] at hl; simp at hl; omega)
  injection hA with hA
  injection hA with h1 h2
  subst h1 h2 hl
  exact Tryz.strings_Join g 0 c l ⟨#[32]⟩ W hc hg hN hle hlen

set_option maxHeartbeats 16000000 in
set_option maxRecDepth 100000 in
theorem Say24_any (q : Reqr) (cs : List Cse) (w : World) (h : ReqAt w q cs) (hn : q.n ≤ 1048570) (hc : CallIn q cs) (he : ErrT w) (ht : TabT w) (hm : MLT w) :
    Calls Tryz.prog 31 #[reqV q] w fun e w' => e = .returned (.string (callS q cs)) ∧ Below w.heap.size w w' := by
  have HS := Lib.hid (callS_eq hc)
  have HWAYS := Lib.hid (name_ways q cs)
  have HCI := Lib.hid hc
  have HE := Lib.hid he
  have HT := Lib.hid ht
  have HM := Lib.hid hm
  have HZ := Lib.hid (say_size hc)
  have HW0 := Lib.hid (say_words hc)
  have HQ := Lib.hid h
  have HNA := Lib.hid (fun W h => Name_any q cs W h)
  have HOK := Lib.hid (args_ok hc)
  have HNO := Lib.hid (name_ok q cs)
  have HLE : RowKit.Hid ((argsS q cs).length ≤ 1048572) := Lib.hid (by have h1 := args_len q cs; have h2 := h.len; omega)
  have HX := Lib.hid (Blk.new w 24 q.cells)
  have B0 := Lib.hid ((Below.refl w.heap.size w).alloc (Nat.le_refl _) (.cells q.cells.toArray 24))
  clear h hc he ht hm
  obtain ⟨kd, ar, vl, df, QA, qn, qc⟩ := q
  simp only at hn HCI
  have HSY : RowKit.Hid ((⟨(Lib.join (([nameS ⟨kd, ar, vl, df, QA, qn, qc⟩ cs] ++ argsS ⟨kd, ar, vl, df, QA, qn, qc⟩ cs).map (·.data.toList)) [32]).toArray⟩ : ByteArray) = sayS ⟨kd, ar, vl, df, QA, qn, qc⟩ cs) := Lib.hid (by unfold sayS; rw [List.singleton_append, List.map_cons, Lib.join_cons])
  generalize hnm0 : nameS ⟨kd, ar, vl, df, QA, qn, qc⟩ cs = nm at *
  generalize hag0 : argsS ⟨kd, ar, vl, df, QA, qn, qc⟩ cs = args at *
  clear hnm0 hag0
  generalize hal0 : args.length = m at *
  have HAL := Lib.hid hal0
  clear hal0
  generalize callS ⟨kd, ar, vl, df, QA, qn, qc⟩ cs = CS at *
  have hm := HLE.out
  unfold reqV
  simp only
  have HQW := Lib.hid (HQ.out.below B0.out)
  have x0 := HX.out.cell (i := 0) rfl
  have x1 := HX.out.cell (i := 1) rfl
  have x2 := HX.out.cell (i := 2) rfl
  have x3 := HX.out.cell (i := 3) rfl
  have x4 := HX.out.cell (i := 4) rfl
  have hwl0 := HX.out.lt
  go_enter Tryz.func31, Tryz.ntmps31
  go_upto_region 2 with (fail)
  have hW : RowKit.Hid (w.alloc (.cells (Reqr.cells ⟨kd, ar, vl, df, QA, qn, qc⟩).toArray 24) = w.alloc (.cells #[.int .i64 kd, .int .i64 ar, .int .i64 vl, .bool df, .slice QA qn qc] 24)) := Lib.hid rfl
  rw [hW.out] at HX B0 HQW x0 x1 x2 x3 x4 hwl0
  clear hW
  generalize w.alloc (.cells #[.int .i64 kd, .int .i64 ar, .int .i64 vl, .bool df, .slice QA qn qc] 24) = W0 at *
  have HNW := Lib.hid (HNA.out W0 HQW.out)
  unfold reqV at HNW
  simp only at HNW
  clear HNA
  go_upto_block 0 with (go_at_call 63; refine HNW.out.mono ?_; rintro e W1 ⟨rfl, hb1⟩)
  have HX1 := Lib.hid (HX.out.below hb1 hwl0)
  have B1 := Lib.hid (B0.out.trans (hb1.mono B0.out.size))
  have HQ1 := Lib.hid (HQW.out.below hb1)
  have HT1 := Lib.hid (HT.out.below (B0.out.trans (hb1.mono B0.out.size)))
  clear x0 x1 x2 x3 x4 hb1 HX HNW HQW B0 hwl0
  have x0 := HX1.out.cell (i := 0) rfl
  have x1 := HX1.out.cell (i := 1) rfl
  have x2 := HX1.out.cell (i := 2) rfl
  have x3 := HX1.out.cell (i := 3) rfl
  have x4 := HX1.out.cell (i := 4) rfl
  have hwl := HX1.out.lt
  by_cases h0 : nm = ⟨#[]⟩
  · have e_0 : (nm.toList == ([] : List UInt8)) = true := by rw [h0]; decide +kernel
    have HV : RowKit.Hid (CS = ⟨#[]⟩) := Lib.hid (by rw [HS.out, if_pos h0])
    clear h0 HS
    go_wp2
    go_ret
    exact ⟨by rw [HV.out]; rfl, B1.out⟩
  have HWAYS := Lib.hid (HWAYS.out.resolve_left h0)
  have HS : RowKit.Hid (CS = match callQ (nm :: args) with
    | none => ⟨#[]⟩
    | some r => if sameQ ⟨kd, ar, vl, df, QA, qn, qc⟩ cs r = true then sayS ⟨kd, ar, vl, df, QA, qn, qc⟩ cs else ⟨#[]⟩) := Lib.hid (by rw [HS.out, if_neg h0]; cases callQ (nm :: args) <;> rfl)
  have e_0 := eqL (l := []) h0 (by decide +kernel)
  clear h0
  go_cut [3] (fun s3 wx => ∃ A c, s3 = .slice A m c ∧ wx.ownsRow W1.heap.size 9 1 (.slice A m c) m (rows args) ∧ Below W1.heap.size W1 wx)
  case first =>
    clear e_0
    rcases HWAYS.out with ⟨hnm, hargs, hk3⟩ | ⟨hk3, hq1, hd1, hnn, hargs⟩ | ⟨hk3, hq1, hd1, hnn, hargs⟩ | ⟨hk7, hnm, hargs⟩ | ⟨hk8, hnm, hargs⟩ | ⟨hk9, hnm, hargs⟩ | ⟨_, hnn, hargs⟩
    · clear HWAYS hk3
      have e_0 : (nm.toList == ([] : List UInt8)) = false := by rw [hnm]; decide +kernel
      have e_1 : (nm.toList == [115, 101, 108, 101, 99, 116]) = true := by rw [hnm]; decide +kernel
      clear hnm
      have HALL : RowKit.Hid (args.length = m) := HAL
      cases df with
      | true =>
        have HAG : RowKit.Hid (args = [w_defS] ++ cs.map kaseS) := Lib.hid hargs
        clear hargs
        go_wp2_with fail
        have HO3 : RowKit.Hid ((((W1.alloc (.cells #[.string ⟨#[100, 101, 102, 97, 117, 108, 116]⟩] 9)).alloc (.cells (#[.string ⟨#[100, 101, 102, 97, 117, 108, 116]⟩] ++ Builtin.zeroCells #[.string ⟨#[]⟩] ((Question.appendCap 1 0 9).cut (W1.tape W1.drawn (Question.appendCap 1 0 9)) - 1)) 9)).drew).ownsRow W1.heap.size 9 1 (.slice (some ⟨W1.heap.size + 1, 0, none⟩) 1 ((Question.appendCap 1 0 9).cut (W1.tape W1.drawn (Question.appendCap 1 0 9)))) 1 (rows [w_defS])) := Lib.hid (by
          have h := own_walked (w := W1.alloc (.cells #[.string ⟨#[100, 101, 102, 97, 117, 108, 116]⟩] 9)) (x := w_defS) (t := 9) (cut_cap W1 9).1 (cut_cap W1 9).2 (base := W1.heap.size) (by simp)
          rw [World.size_alloc] at h
          exact h)
        have HB3 := Lib.hid (below2 W1 (.cells #[.string ⟨#[100, 101, 102, 97, 117, 108, 116]⟩] 9) (.cells (#[.string ⟨#[100, 101, 102, 97, 117, 108, 116]⟩] ++ Builtin.zeroCells #[.string ⟨#[]⟩] ((Question.appendCap 1 0 9).cut (W1.tape W1.drawn (Question.appendCap 1 0 9)) - 1)) 9))
        go_loopg [31, 3] qn (fun gg i s wr => ∃ (k : Nat) (A : Option Addr) (cp : Nat), k ≤ qn ∧ gg = qn - k ∧ i = .int .i64 k ∧ s = .slice A (k + 1) cp ∧ wr.ownsRow W1.heap.size 9 1 (.slice A (k + 1) cp) (k + 1) (rows ([w_defS] ++ (cs.take k).map kaseS)) ∧ Below W1.heap.size W1 wr)
        case atStart => exact ⟨0, some ⟨W1.heap.size + 1, 0, none⟩, (Question.appendCap 1 0 9).cut (W1.tape W1.drawn (Question.appendCap 1 0 9)), Nat.zero_le _, rfl, rfl, rfl, HO3.out, HB3.out⟩
        case round =>
          obtain ⟨k, A, cp, hk, hg, rfl, rfl, hown, hb⟩ := hrel
          have HG := Lib.hid hg
          have HO := Lib.hid hown
          have HB := Lib.hid hb
          clear hg hown hb
          by_cases hlt : k < qn
          · have q1 : (k : Int) < (qn : Int) := by omega
            have hkl : k < cs.length := by rw [HQ1.out.len]; exact hlt
            have hrd := HQ1.out.rd.below HB.out
            obtain ⟨b2, o2, hA, hbl, hcl⟩ := hrd.at_ (by rw [rows_length]; exact Nat.mul_pos (by omega) (by decide))
            subst hA
            obtain ⟨y0, y1, y2⟩ := cse_cells hcl hkl rfl
            have HIN := Lib.hid (HCI.out.2.2 (cs.getD k Cse.none) (by rw [List.getD, List.getElem?_eq_getElem hkl]; exact List.getElem_mem hkl))
            have HTK : RowKit.Hid (rows ([w_defS] ++ (cs.take (k + 1)).map kaseS) = rows ([w_defS] ++ (cs.take k).map kaseS) ++ rows [kaseS (cs.getD k Cse.none)]) := Lib.hid (by
              rw [List.take_succ_eq_append_getElem hkl, List.map_append, ← List.append_assoc, rows_append]
              congr 1
              rw [List.getD, List.getElem?_eq_getElem hkl]
              rfl)
            clear hcl hrd hkl
            generalize cs.getD k Cse.none = x at *
            generalize [w_defS] ++ (cs.take k).map kaseS = l at *
            have HTW := Lib.hid (HT1.out.below HB.out)
            have HKS := Lib.hid (fun W h => kase24_any x W HIN.out.1 HIN.out.2 h)
            generalize kaseS x = z at *
            go_wp2_with (first
              | (go_at_call 64; refine (HKS.out _ (HTW.out.below ((Below.refl _ _).alloc (Nat.le_refl _) _))).mono ?_; rintro er w2 ⟨rfl, hb2⟩; have HB2 := Lib.hid (((Below.refl wr.heap.size wr).alloc (Nat.le_refl _) _).trans (hb2.mono (by simp))); clear hb2)
              | (at_builtin; refine wpList_app rfl (.tmp 35) (.tmp 38) 57 9 rfl W1.heap.size (.string ⟨#[]⟩) 1 16 Tryz.underlying57 str_info rfl (by decide) A (k + 1) cp (rows l) rfl ((own_below HO.out HB2.out).alloc _) (some ⟨w2.heap.size, 0, none⟩) 1 1 (rows [z]) rfl (by simp) rfl (blk_new (cs := rows [z]) rfl).rd (rows_one _) (k + 1 + 1) (by omega) (rows (l ++ [z])) (by rw [rows_append]) (by unfold maxLen; omega) (by omega) (by have := HB2.out.size; have := HB.out.size; simp; omega) ?_; intro A3 c3 w3 hown3 hg3 hb3))
            have HO3 := Lib.hid hown3
            have HB3 := Lib.hid ((((HB.out.trans (HB2.out.mono HB.out.size))).alloc ((HB.out.trans (HB2.out.mono HB.out.size))).size _).trans hb3)
            go_roundg (qn - (k + 1))
            case measure => rw [HG.out]; omega
            case rel => exact ⟨k + 1, A3, c3, by omega, rfl, by go_num, rfl, by rw [HTK.out, ← rows_append]; exact HO3.out, HB3.out⟩
          · obtain rfl : k = qn := by omega
            have q1 : ¬ (k : Int) < (k : Int) := by omega
            have HF : RowKit.Hid (args = [w_defS] ++ (cs.take k).map kaseS) := Lib.hid (by rw [HAG.out, List.take_of_length_le (by rw [HQ1.out.len]; exact Nat.le_refl _)])
            have HFL : RowKit.Hid (args.length = k + 1) := Lib.hid (by rw [HAG.out, List.length_append, List.length_map, HQ1.out.len]; show 1 + k = k + 1; omega)
            go_wp2_with fail
            go_meet
            exact ⟨A, cp, congrArg (fun z => Value.slice A z cp) (HFL.out.symm.trans HAL.out), by rw [← HAL.out, HFL.out, HF.out]; exact HO.out, HB.out⟩

      | false =>
        have HAG : RowKit.Hid (args = [] ++ cs.map kaseS) := Lib.hid hargs
        clear hargs
        go_wp2_with fail
        go_loopg [31, 3] qn (fun gg i s wr => ∃ (k : Nat) (A : Option Addr) (cp : Nat), k ≤ qn ∧ gg = qn - k ∧ i = .int .i64 k ∧ s = .slice A (k + 0) cp ∧ wr.ownsRow W1.heap.size 9 1 (.slice A (k + 0) cp) (k + 0) (rows (([] : List ByteArray) ++ (cs.take k).map kaseS)) ∧ Below W1.heap.size W1 wr)
        case atStart => exact ⟨0, none, 0, Nat.zero_le _, rfl, rfl, rfl, own_nil _ _ _ _, Below.refl _ _⟩
        case round =>
          obtain ⟨k, A, cp, hk, hg, rfl, rfl, hown, hb⟩ := hrel
          have HG := Lib.hid hg
          have HO := Lib.hid hown
          have HB := Lib.hid hb
          clear hg hown hb
          by_cases hlt : k < qn
          · have q1 : (k : Int) < (qn : Int) := by omega
            have hkl : k < cs.length := by rw [HQ1.out.len]; exact hlt
            have hrd := HQ1.out.rd.below HB.out
            obtain ⟨b2, o2, hA, hbl, hcl⟩ := hrd.at_ (by rw [rows_length]; exact Nat.mul_pos (by omega) (by decide))
            subst hA
            obtain ⟨y0, y1, y2⟩ := cse_cells hcl hkl rfl
            have HIN := Lib.hid (HCI.out.2.2 (cs.getD k Cse.none) (by rw [List.getD, List.getElem?_eq_getElem hkl]; exact List.getElem_mem hkl))
            have HTK : RowKit.Hid (rows (([] : List ByteArray) ++ (cs.take (k + 1)).map kaseS) = rows (([] : List ByteArray) ++ (cs.take k).map kaseS) ++ rows [kaseS (cs.getD k Cse.none)]) := Lib.hid (by
              rw [List.take_succ_eq_append_getElem hkl, List.map_append, ← List.append_assoc, rows_append]
              congr 1
              rw [List.getD, List.getElem?_eq_getElem hkl]
              rfl)
            clear hcl hrd hkl
            generalize cs.getD k Cse.none = x at *
            generalize ([] : List ByteArray) ++ (cs.take k).map kaseS = l at *
            have HTW := Lib.hid (HT1.out.below HB.out)
            have HKS := Lib.hid (fun W h => kase24_any x W HIN.out.1 HIN.out.2 h)
            generalize kaseS x = z at *
            go_wp2_with (first
              | (go_at_call 64; refine (HKS.out _ (HTW.out.below ((Below.refl _ _).alloc (Nat.le_refl _) _))).mono ?_; rintro er w2 ⟨rfl, hb2⟩; have HB2 := Lib.hid (((Below.refl wr.heap.size wr).alloc (Nat.le_refl _) _).trans (hb2.mono (by simp))); clear hb2)
              | (at_builtin; refine wpList_app rfl (.tmp 35) (.tmp 38) 57 9 rfl W1.heap.size (.string ⟨#[]⟩) 1 16 Tryz.underlying57 str_info rfl (by decide) A (k + 0) cp (rows l) rfl ((own_below HO.out HB2.out).alloc _) (some ⟨w2.heap.size, 0, none⟩) 1 1 (rows [z]) rfl (by simp) rfl (blk_new (cs := rows [z]) rfl).rd (rows_one _) (k + 1 + 0) (by omega) (rows (l ++ [z])) (by rw [rows_append]) (by unfold maxLen; omega) (by omega) (by have := HB2.out.size; have := HB.out.size; simp; omega) ?_; intro A3 c3 w3 hown3 hg3 hb3))
            have HO3 := Lib.hid hown3
            have HB3 := Lib.hid ((((HB.out.trans (HB2.out.mono HB.out.size))).alloc ((HB.out.trans (HB2.out.mono HB.out.size))).size _).trans hb3)
            go_roundg (qn - (k + 1))
            case measure => rw [HG.out]; omega
            case rel => exact ⟨k + 1, A3, c3, by omega, rfl, by go_num, rfl, by rw [HTK.out, ← rows_append]; exact HO3.out, HB3.out⟩
          · obtain rfl : k = qn := by omega
            have q1 : ¬ (k : Int) < (k : Int) := by omega
            have HF : RowKit.Hid (args = ([] : List ByteArray) ++ (cs.take k).map kaseS) := Lib.hid (by rw [HAG.out, List.take_of_length_le (by rw [HQ1.out.len]; exact Nat.le_refl _)])
            have HFL : RowKit.Hid (args.length = k + 0) := Lib.hid (by rw [HAG.out, List.length_append, List.length_map, HQ1.out.len]; show 0 + k = k + 0; omega)
            go_wp2_with fail
            go_meet
            exact ⟨A, cp, congrArg (fun z => Value.slice A z cp) (HFL.out.symm.trans HAL.out), by rw [← HAL.out, HFL.out, HF.out]; exact HO.out, HB.out⟩
    · rcases hnn with hnm | hnm
      · have e_0 : (nm.toList == ([] : List UInt8)) = false := by rw [hnm]; decide +kernel
        have e_1 : (nm.toList == [115, 101, 108, 101, 99, 116]) = false := by rw [hnm]; decide +kernel
        have e_2 : (nm.toList == [115, 101, 110, 100]) = true := by rw [hnm]; decide +kernel
        clear hnm
        obtain ⟨b2, o2, hA, hbc, hcl⟩ := HQ1.out.rd.at_ (by rw [rows_length, HQ1.out.len]; exact Nat.mul_pos (by show 0 < qn; omega) (by decide))
        subst hA
        obtain ⟨y0, y1, y2⟩ := cse_cells hcl (k := 0) (by rw [HQ1.out.len]; show 0 < qn; omega) rfl
        have HI := Lib.hid HCI.out.one
        rw [Nat.zero_mul, Nat.add_zero] at y0 y1 y2
        have HAG := Lib.hid hargs
        clear hcl hargs hd1 HWAYS hk3
        subst hq1
        generalize cs.getD 0 Cse.none = x at *
        obtain ⟨xd, xh, xv⟩ := x
        simp only at y0 y1 y2 HI HAG
        have HI1 := Lib.hid (fun W => Itoa_any xh HI.out.1 W)
        have HI2 := Lib.hid (fun W => Itoa_any xv HI.out.2 W)
        generalize itoaS xh = z1 at *
        generalize itoaS xv = z2 at *
        clear y0
        have hm1 : m = 2 := by rw [← HAL.out, HAG.out]; rfl
        subst hm1
        clear hm
        go_upto_region 17 with (fail)
        have HTD : RowKit.Hid (TabT W1.drew) := Lib.hid (HT1.out.below (Below.drewN' (Below.refl _ _) 1))
        go_region_held3 (fun w' => w'.cell? ⟨w.heap.size, 4, none⟩ = some (.slice (some ⟨b2, o2, none⟩) 1 qc) ∧ w'.cell? ⟨b2, o2 + 1, none⟩ = some (.int .i64 xh) ∧ w'.cell? ⟨b2, o2 + 2, none⟩ = some (.int .i64 xv)) (first | go_keep | (simp only [hk1, hk2, hj1, hj2]; go_keep)) (first
          | (go_at_call 65; (with_reducible refine (HI1.out W1.drew HTD.out).mono ?_); rintro er w2 ⟨rfl, hb2⟩; have hB2 : Below W1.heap.size W1 w2 := ⟨hb2.os, hb2.tape, hb2.output, hb2.size, hb2.block⟩; have HT2 := Lib.hid (HT1.out.below hB2); have hk1 := fun o => hB2.cell (p := ⟨w.heap.size, o, none⟩) hwl; have hj1 := fun o => hB2.cell (p := ⟨b2, o, none⟩) hbc)
          | (go_at_call 65; (with_reducible refine (HI2.out w2 HT2.out).mono ?_); rintro er w3 ⟨rfl, hb3⟩; have hB3 : Below W1.heap.size W1 w3 := hB2.trans (hb3.mono hB2.size); have hk2 := fun o => hB3.cell (p := ⟨w.heap.size, o, none⟩) hwl; have hj2 := fun o => hB3.cell (p := ⟨b2, o, none⟩) hbc)
          | (refine step_app ?_ (.tmp 44) (.tmp 57) 57 9 ?_ W1.heap.size (.string ⟨#[]⟩) 1 16 Tryz.underlying57 str_info ?_ ?_ none 0 0 [] ?_ (own_nil _ _ _ _) _ 2 2 (rows [z1, z2]) (by rfl) ?_ ?_ ?_ (rows_one _) 2 rfl (rows [z1, z2]) rfl ?_ ?_ ?_ ?_; rfl; rfl; rfl; decide; rfl; simp; rfl; exact (blk_new (cs := rows [z1, z2]) (by rfl)).rd; (unfold maxLen; omega); omega; (focus (have := hB3.size; rw [World.size_alloc]; omega)); intro A4 d4 w4 hown4 hg4 hb4; have hB4 : Below W1.heap.size W1 w4 := (hB3.alloc hB3.size _).trans hb4; have hk3 := fun o => hB4.cell (p := ⟨w.heap.size, o, none⟩) hwl; have hj3 := fun o => hB4.cell (p := ⟨b2, o, none⟩) hbc))
        have HB4 := Lib.hid hB4
        have HO4 := Lib.hid hown4
        go_wp2_with fail
        go_meet
        exact ⟨A4, d4, rfl, by rw [HAG.out]; exact HO4.out, HB4.out⟩
      · have e_0 : (nm.toList == ([] : List UInt8)) = false := by rw [hnm]; decide +kernel
        have e_1 : (nm.toList == [115, 101, 108, 101, 99, 116]) = false := by rw [hnm]; decide +kernel
        have e_2 : (nm.toList == [115, 101, 110, 100]) = false := by rw [hnm]; decide +kernel
        have e_3 : (nm.toList == [116, 114, 121, 115, 101, 110, 100]) = true := by rw [hnm]; decide +kernel
        clear hnm
        obtain ⟨b2, o2, hA, hbc, hcl⟩ := HQ1.out.rd.at_ (by rw [rows_length, HQ1.out.len]; exact Nat.mul_pos (by show 0 < qn; omega) (by decide))
        subst hA
        obtain ⟨y0, y1, y2⟩ := cse_cells hcl (k := 0) (by rw [HQ1.out.len]; show 0 < qn; omega) rfl
        have HI := Lib.hid HCI.out.one
        rw [Nat.zero_mul, Nat.add_zero] at y0 y1 y2
        have HAG := Lib.hid hargs
        clear hcl hargs hd1 HWAYS hk3
        subst hq1
        generalize cs.getD 0 Cse.none = x at *
        obtain ⟨xd, xh, xv⟩ := x
        simp only at y0 y1 y2 HI HAG
        have HI1 := Lib.hid (fun W => Itoa_any xh HI.out.1 W)
        have HI2 := Lib.hid (fun W => Itoa_any xv HI.out.2 W)
        generalize itoaS xh = z1 at *
        generalize itoaS xv = z2 at *
        clear y0
        have hm1 : m = 2 := by rw [← HAL.out, HAG.out]; rfl
        subst hm1
        clear hm
        go_upto_region 17 with (fail)
        have HTD : RowKit.Hid (TabT W1.drew) := Lib.hid (HT1.out.below (Below.drewN' (Below.refl _ _) 1))
        go_region_held3 (fun w' => w'.cell? ⟨w.heap.size, 4, none⟩ = some (.slice (some ⟨b2, o2, none⟩) 1 qc) ∧ w'.cell? ⟨b2, o2 + 1, none⟩ = some (.int .i64 xh) ∧ w'.cell? ⟨b2, o2 + 2, none⟩ = some (.int .i64 xv)) (first | go_keep | (simp only [hk1, hk2, hj1, hj2]; go_keep)) (first
          | (go_at_call 65; (with_reducible refine (HI1.out W1.drew HTD.out).mono ?_); rintro er w2 ⟨rfl, hb2⟩; have hB2 : Below W1.heap.size W1 w2 := ⟨hb2.os, hb2.tape, hb2.output, hb2.size, hb2.block⟩; have HT2 := Lib.hid (HT1.out.below hB2); have hk1 := fun o => hB2.cell (p := ⟨w.heap.size, o, none⟩) hwl; have hj1 := fun o => hB2.cell (p := ⟨b2, o, none⟩) hbc)
          | (go_at_call 65; (with_reducible refine (HI2.out w2 HT2.out).mono ?_); rintro er w3 ⟨rfl, hb3⟩; have hB3 : Below W1.heap.size W1 w3 := hB2.trans (hb3.mono hB2.size); have hk2 := fun o => hB3.cell (p := ⟨w.heap.size, o, none⟩) hwl; have hj2 := fun o => hB3.cell (p := ⟨b2, o, none⟩) hbc)
          | (refine step_app ?_ (.tmp 44) (.tmp 57) 57 9 ?_ W1.heap.size (.string ⟨#[]⟩) 1 16 Tryz.underlying57 str_info ?_ ?_ none 0 0 [] ?_ (own_nil _ _ _ _) _ 2 2 (rows [z1, z2]) (by rfl) ?_ ?_ ?_ (rows_one _) 2 rfl (rows [z1, z2]) rfl ?_ ?_ ?_ ?_; rfl; rfl; rfl; decide; rfl; simp; rfl; exact (blk_new (cs := rows [z1, z2]) (by rfl)).rd; (unfold maxLen; omega); omega; (focus (have := hB3.size; rw [World.size_alloc]; omega)); intro A4 d4 w4 hown4 hg4 hb4; have hB4 : Below W1.heap.size W1 w4 := (hB3.alloc hB3.size _).trans hb4; have hk3 := fun o => hB4.cell (p := ⟨w.heap.size, o, none⟩) hwl; have hj3 := fun o => hB4.cell (p := ⟨b2, o, none⟩) hbc))
        have HB4 := Lib.hid hB4
        have HO4 := Lib.hid hown4
        go_wp2_with fail
        go_meet
        exact ⟨A4, d4, rfl, by rw [HAG.out]; exact HO4.out, HB4.out⟩
    · rcases hnn with hnm | hnm
      · have e_0 : (nm.toList == ([] : List UInt8)) = false := by rw [hnm]; decide +kernel
        have e_1 : (nm.toList == [115, 101, 108, 101, 99, 116]) = false := by rw [hnm]; decide +kernel
        have e_2 : (nm.toList == [115, 101, 110, 100]) = false := by rw [hnm]; decide +kernel
        have e_3 : (nm.toList == [116, 114, 121, 115, 101, 110, 100]) = false := by rw [hnm]; decide +kernel
        have e_4 : (nm.toList == [114, 101, 99, 118]) = true := by rw [hnm]; decide +kernel
        clear hnm
        obtain ⟨b2, o2, hA, hbc, hcl⟩ := HQ1.out.rd.at_ (by rw [rows_length, HQ1.out.len]; exact Nat.mul_pos (by show 0 < qn; omega) (by decide))
        subst hA
        obtain ⟨y0, y1, y2⟩ := cse_cells hcl (k := 0) (by rw [HQ1.out.len]; show 0 < qn; omega) rfl
        have HI := Lib.hid HCI.out.one
        rw [Nat.zero_mul, Nat.add_zero] at y0 y1 y2
        have HAG := Lib.hid hargs
        clear hcl hargs hd1 HWAYS hk3
        subst hq1
        generalize cs.getD 0 Cse.none = x at *
        obtain ⟨xd, xh, xv⟩ := x
        simp only at y0 y1 y2 HI HAG
        have HI1 := Lib.hid (fun W => Itoa_any xh HI.out.1 W)
        have HI2 := Lib.hid (fun W => Itoa_any xv HI.out.2 W)
        generalize itoaS xh = z1 at *
        generalize itoaS xv = z2 at *
        clear y0
        have hm1 : m = 1 := by rw [← HAL.out, HAG.out]; rfl
        subst hm1
        clear hm
        go_wp2_with (first
          | (go_at_call 65; refine (HI1.out W1 HT1.out).mono ?_; rintro er w2 ⟨rfl, hb2⟩; have HB2 := Lib.hid hb2; clear hb2)
          | (at_builtin; refine wpList_app rfl (.tmp 62) (.tmp 69) 57 9 rfl W1.heap.size (.string ⟨#[]⟩) 1 16 Tryz.underlying57 str_info rfl (by decide) none 0 0 (rows ([] : List ByteArray)) rfl (own_nil _ _ _ _) (some ⟨w2.heap.size, 0, none⟩) 1 1 (rows [z1]) rfl (by simp) rfl (blk_new (cs := rows [z1]) rfl).rd (rows_one _) (1) rfl (rows (([] : List ByteArray) ++ [z1])) (by rw [rows_append]) (by unfold maxLen; omega) (by omega) (by have := HB2.out.size; simp; omega) ?_; intro A3 c3 w3 hown3 hg3 hb3))
        go_meet
        exact ⟨A3, c3, rfl, by rw [HAG.out]; exact hown3, (HB2.out.alloc HB2.out.size _).trans hb3⟩
      · have e_0 : (nm.toList == ([] : List UInt8)) = false := by rw [hnm]; decide +kernel
        have e_1 : (nm.toList == [115, 101, 108, 101, 99, 116]) = false := by rw [hnm]; decide +kernel
        have e_2 : (nm.toList == [115, 101, 110, 100]) = false := by rw [hnm]; decide +kernel
        have e_3 : (nm.toList == [116, 114, 121, 115, 101, 110, 100]) = false := by rw [hnm]; decide +kernel
        have e_4 : (nm.toList == [114, 101, 99, 118]) = false := by rw [hnm]; decide +kernel
        have e_5 : (nm.toList == [116, 114, 121, 114, 101, 99, 118]) = true := by rw [hnm]; decide +kernel
        clear hnm
        obtain ⟨b2, o2, hA, hbc, hcl⟩ := HQ1.out.rd.at_ (by rw [rows_length, HQ1.out.len]; exact Nat.mul_pos (by show 0 < qn; omega) (by decide))
        subst hA
        obtain ⟨y0, y1, y2⟩ := cse_cells hcl (k := 0) (by rw [HQ1.out.len]; show 0 < qn; omega) rfl
        have HI := Lib.hid HCI.out.one
        rw [Nat.zero_mul, Nat.add_zero] at y0 y1 y2
        have HAG := Lib.hid hargs
        clear hcl hargs hd1 HWAYS hk3
        subst hq1
        generalize cs.getD 0 Cse.none = x at *
        obtain ⟨xd, xh, xv⟩ := x
        simp only at y0 y1 y2 HI HAG
        have HI1 := Lib.hid (fun W => Itoa_any xh HI.out.1 W)
        have HI2 := Lib.hid (fun W => Itoa_any xv HI.out.2 W)
        generalize itoaS xh = z1 at *
        generalize itoaS xv = z2 at *
        clear y0
        have hm1 : m = 1 := by rw [← HAL.out, HAG.out]; rfl
        subst hm1
        clear hm
        go_wp2_with (first
          | (go_at_call 65; refine (HI1.out W1 HT1.out).mono ?_; rintro er w2 ⟨rfl, hb2⟩; have HB2 := Lib.hid hb2; clear hb2)
          | (at_builtin; refine wpList_app rfl (.tmp 62) (.tmp 69) 57 9 rfl W1.heap.size (.string ⟨#[]⟩) 1 16 Tryz.underlying57 str_info rfl (by decide) none 0 0 (rows ([] : List ByteArray)) rfl (own_nil _ _ _ _) (some ⟨w2.heap.size, 0, none⟩) 1 1 (rows [z1]) rfl (by simp) rfl (blk_new (cs := rows [z1]) rfl).rd (rows_one _) (1) rfl (rows (([] : List ByteArray) ++ [z1])) (by rw [rows_append]) (by unfold maxLen; omega) (by omega) (by have := HB2.out.size; simp; omega) ?_; intro A3 c3 w3 hown3 hg3 hb3))
        go_meet
        exact ⟨A3, c3, rfl, by rw [HAG.out]; exact hown3, (HB2.out.alloc HB2.out.size _).trans hb3⟩
    · have e_0 : (nm.toList == ([] : List UInt8)) = false := by rw [hnm]; decide +kernel
      have e_1 : (nm.toList == [115, 101, 108, 101, 99, 116]) = false := by rw [hnm]; decide +kernel
      have e_2 : (nm.toList == [115, 101, 110, 100]) = false := by rw [hnm]; decide +kernel
      have e_3 : (nm.toList == [116, 114, 121, 115, 101, 110, 100]) = false := by rw [hnm]; decide +kernel
      have e_4 : (nm.toList == [114, 101, 99, 118]) = false := by rw [hnm]; decide +kernel
      have e_5 : (nm.toList == [116, 114, 121, 114, 101, 99, 118]) = false := by rw [hnm]; decide +kernel
      have e_6 : (nm.toList == [99, 97, 110, 99, 101, 108]) = true := by rw [hnm]; decide +kernel
      clear hnm
      have HAG := Lib.hid hargs
      clear hargs HWAYS hk7
      have HI1 := Lib.hid (fun W => Itoa_any ar HCI.out.1 W)
      have HI2 := Lib.hid (fun W => Itoa_any vl HCI.out.2.1 W)
      generalize itoaS ar = z1 at *
      generalize itoaS vl = z2 at *
      have hm1 : m = 2 := by rw [← HAL.out, HAG.out]; rfl
      subst hm1
      clear hm
      go_upto_region 22 with (fail)
      have HTD : RowKit.Hid (TabT W1.drew) := Lib.hid (HT1.out.below (Below.drewN' (Below.refl _ _) 1))
      go_region_held3 (fun w' => w'.cell? ⟨w.heap.size, 1, none⟩ = some (.int .i64 ar) ∧ w'.cell? ⟨w.heap.size, 2, none⟩ = some (.int .i64 vl)) (first | go_keep | (simp only [hk1, hk2]; go_keep)) (first
        | (go_at_call 65; (with_reducible refine (HI1.out W1.drew HTD.out).mono ?_); rintro er w2 ⟨rfl, hb2⟩; have hB2 : Below W1.heap.size W1 w2 := ⟨hb2.os, hb2.tape, hb2.output, hb2.size, hb2.block⟩; have HT2 := Lib.hid (HT1.out.below hB2); have hk1 := fun o => hB2.cell (p := ⟨w.heap.size, o, none⟩) hwl)
        | (go_at_call 65; (with_reducible refine (HI2.out w2 HT2.out).mono ?_); rintro er w3 ⟨rfl, hb3⟩; have hB3 : Below W1.heap.size W1 w3 := hB2.trans (hb3.mono hB2.size); have hk2 := fun o => hB3.cell (p := ⟨w.heap.size, o, none⟩) hwl)
        | (refine step_app ?_ (.tmp 73) (.tmp 80) 57 9 ?_ W1.heap.size (.string ⟨#[]⟩) 1 16 Tryz.underlying57 str_info ?_ ?_ none 0 0 [] ?_ (own_nil _ _ _ _) _ 2 2 (rows [z1, z2]) (by rfl) ?_ ?_ ?_ (rows_one _) 2 rfl (rows [z1, z2]) rfl ?_ ?_ ?_ ?_; rfl; rfl; rfl; decide; rfl; simp; rfl; exact (blk_new (cs := rows [z1, z2]) (by rfl)).rd; (unfold maxLen; omega); omega; (focus (have := hB3.size; rw [World.size_alloc]; omega)); intro A4 d4 w4 hown4 hg4 hb4; have hB4 : Below W1.heap.size W1 w4 := (hB3.alloc hB3.size _).trans hb4; have hk3 := fun o => hB4.cell (p := ⟨w.heap.size, o, none⟩) hwl))
      have HB4 := Lib.hid hB4
      have HO4 := Lib.hid hown4
      go_wp2_with fail
      go_meet
      exact ⟨A4, d4, rfl, by rw [HAG.out]; exact HO4.out, HB4.out⟩
    · have e_0 : (nm.toList == ([] : List UInt8)) = false := by rw [hnm]; decide +kernel
      have e_1 : (nm.toList == [115, 101, 108, 101, 99, 116]) = false := by rw [hnm]; decide +kernel
      have e_2 : (nm.toList == [115, 101, 110, 100]) = false := by rw [hnm]; decide +kernel
      have e_3 : (nm.toList == [116, 114, 121, 115, 101, 110, 100]) = false := by rw [hnm]; decide +kernel
      have e_4 : (nm.toList == [114, 101, 99, 118]) = false := by rw [hnm]; decide +kernel
      have e_5 : (nm.toList == [116, 114, 121, 114, 101, 99, 118]) = false := by rw [hnm]; decide +kernel
      have e_6 : (nm.toList == [99, 97, 110, 99, 101, 108]) = false := by rw [hnm]; decide +kernel
      have e_7 : (nm.toList == [112, 117, 116]) = true := by rw [hnm]; decide +kernel
      clear hnm
      have HAG := Lib.hid hargs
      clear hargs HWAYS hk8
      have HI1 := Lib.hid (fun W => Itoa_any vl HCI.out.2.1 W)
      generalize itoaS vl = z1 at *
      have hm1 : m = 1 := by rw [← HAL.out, HAG.out]; rfl
      subst hm1
      clear hm
      go_wp2_with (first
        | (go_at_call 65; refine (HI1.out W1 HT1.out).mono ?_; rintro er w2 ⟨rfl, hb2⟩; have HB2 := Lib.hid hb2; clear hb2)
        | (at_builtin; refine wpList_app rfl (.tmp 84) (.tmp 88) 57 9 rfl W1.heap.size (.string ⟨#[]⟩) 1 16 Tryz.underlying57 str_info rfl (by decide) none 0 0 (rows ([] : List ByteArray)) rfl (own_nil _ _ _ _) (some ⟨w2.heap.size, 0, none⟩) 1 1 (rows [z1]) rfl (by simp) rfl (blk_new (cs := rows [z1]) rfl).rd (rows_one _) (1) rfl (rows (([] : List ByteArray) ++ [z1])) (by rw [rows_append]) (by unfold maxLen; omega) (by omega) (by have := HB2.out.size; simp; omega) ?_; intro A3 c3 w3 hown3 hg3 hb3))
      go_meet
      exact ⟨A3, c3, rfl, by rw [HAG.out]; exact hown3, (HB2.out.alloc HB2.out.size _).trans hb3⟩
    · have e_0 : (nm.toList == ([] : List UInt8)) = false := by rw [hnm]; decide +kernel
      have e_1 : (nm.toList == [115, 101, 108, 101, 99, 116]) = false := by rw [hnm]; decide +kernel
      have e_2 : (nm.toList == [115, 101, 110, 100]) = false := by rw [hnm]; decide +kernel
      have e_3 : (nm.toList == [116, 114, 121, 115, 101, 110, 100]) = false := by rw [hnm]; decide +kernel
      have e_4 : (nm.toList == [114, 101, 99, 118]) = false := by rw [hnm]; decide +kernel
      have e_5 : (nm.toList == [116, 114, 121, 114, 101, 99, 118]) = false := by rw [hnm]; decide +kernel
      have e_6 : (nm.toList == [99, 97, 110, 99, 101, 108]) = false := by rw [hnm]; decide +kernel
      have e_7 : (nm.toList == [112, 117, 116]) = false := by rw [hnm]; decide +kernel
      have e_8 : (nm.toList == [116, 97, 107, 101]) = true := by rw [hnm]; decide +kernel
      clear hnm
      have HAG := Lib.hid hargs
      clear hargs HWAYS hk9
      have hm1 : m = 0 := by rw [← HAL.out, HAG.out]; rfl
      subst hm1
      clear hm
      go_wp2_with fail
      go_meet
      exact ⟨none, 0, rfl, by rw [HAG.out]; exact own_nil _ _ _ _, Below.refl _ _⟩
    · have HAG := Lib.hid hargs
      clear hargs HWAYS
      have HI1 := Lib.hid (fun W => Itoa_any ar HCI.out.1 W)
      generalize itoaS ar = z1 at *
      rcases hnn with hnm | hnm | hnm | hnm | hnm
      · have e_0 : (nm.toList == ([] : List UInt8)) = false := by rw [hnm]; decide +kernel
        have e_1 : (nm.toList == [115, 101, 108, 101, 99, 116]) = false := by rw [hnm]; decide +kernel
        have e_2 : (nm.toList == [115, 101, 110, 100]) = false := by rw [hnm]; decide +kernel
        have e_3 : (nm.toList == [116, 114, 121, 115, 101, 110, 100]) = false := by rw [hnm]; decide +kernel
        have e_4 : (nm.toList == [114, 101, 99, 118]) = false := by rw [hnm]; decide +kernel
        have e_5 : (nm.toList == [116, 114, 121, 114, 101, 99, 118]) = false := by rw [hnm]; decide +kernel
        have e_6 : (nm.toList == [99, 97, 110, 99, 101, 108]) = false := by rw [hnm]; decide +kernel
        have e_7 : (nm.toList == [112, 117, 116]) = false := by rw [hnm]; decide +kernel
        have e_8 : (nm.toList == [116, 97, 107, 101]) = false := by rw [hnm]; decide +kernel
        clear hnm
        have hm1 : m = 1 := by rw [← HAL.out, HAG.out]; rfl
        subst hm1
        clear hm
        go_wp2_with (first
          | (go_at_call 65; refine (HI1.out W1 HT1.out).mono ?_; rintro er w2 ⟨rfl, hb2⟩; have HB2 := Lib.hid hb2; clear hb2)
          | (at_builtin; refine wpList_app rfl (.tmp 13) (.tmp 17) 57 9 rfl W1.heap.size (.string ⟨#[]⟩) 1 16 Tryz.underlying57 str_info rfl (by decide) none 0 0 (rows ([] : List ByteArray)) rfl (own_nil _ _ _ _) (some ⟨w2.heap.size, 0, none⟩) 1 1 (rows [z1]) rfl (by simp) rfl (blk_new (cs := rows [z1]) rfl).rd (rows_one _) (1) rfl (rows (([] : List ByteArray) ++ [z1])) (by rw [rows_append]) (by unfold maxLen; omega) (by omega) (by have := HB2.out.size; simp; omega) ?_; intro A3 c3 w3 hown3 hg3 hb3))
        go_meet
        exact ⟨A3, c3, rfl, by rw [HAG.out]; exact hown3, (HB2.out.alloc HB2.out.size _).trans hb3⟩
      · have e_0 : (nm.toList == ([] : List UInt8)) = false := by rw [hnm]; decide +kernel
        have e_1 : (nm.toList == [115, 101, 108, 101, 99, 116]) = false := by rw [hnm]; decide +kernel
        have e_2 : (nm.toList == [115, 101, 110, 100]) = false := by rw [hnm]; decide +kernel
        have e_3 : (nm.toList == [116, 114, 121, 115, 101, 110, 100]) = false := by rw [hnm]; decide +kernel
        have e_4 : (nm.toList == [114, 101, 99, 118]) = false := by rw [hnm]; decide +kernel
        have e_5 : (nm.toList == [116, 114, 121, 114, 101, 99, 118]) = false := by rw [hnm]; decide +kernel
        have e_6 : (nm.toList == [99, 97, 110, 99, 101, 108]) = false := by rw [hnm]; decide +kernel
        have e_7 : (nm.toList == [112, 117, 116]) = false := by rw [hnm]; decide +kernel
        have e_8 : (nm.toList == [116, 97, 107, 101]) = false := by rw [hnm]; decide +kernel
        clear hnm
        have hm1 : m = 1 := by rw [← HAL.out, HAG.out]; rfl
        subst hm1
        clear hm
        go_wp2_with (first
          | (go_at_call 65; refine (HI1.out W1 HT1.out).mono ?_; rintro er w2 ⟨rfl, hb2⟩; have HB2 := Lib.hid hb2; clear hb2)
          | (at_builtin; refine wpList_app rfl (.tmp 13) (.tmp 17) 57 9 rfl W1.heap.size (.string ⟨#[]⟩) 1 16 Tryz.underlying57 str_info rfl (by decide) none 0 0 (rows ([] : List ByteArray)) rfl (own_nil _ _ _ _) (some ⟨w2.heap.size, 0, none⟩) 1 1 (rows [z1]) rfl (by simp) rfl (blk_new (cs := rows [z1]) rfl).rd (rows_one _) (1) rfl (rows (([] : List ByteArray) ++ [z1])) (by rw [rows_append]) (by unfold maxLen; omega) (by omega) (by have := HB2.out.size; simp; omega) ?_; intro A3 c3 w3 hown3 hg3 hb3))
        go_meet
        exact ⟨A3, c3, rfl, by rw [HAG.out]; exact hown3, (HB2.out.alloc HB2.out.size _).trans hb3⟩
      · have e_0 : (nm.toList == ([] : List UInt8)) = false := by rw [hnm]; decide +kernel
        have e_1 : (nm.toList == [115, 101, 108, 101, 99, 116]) = false := by rw [hnm]; decide +kernel
        have e_2 : (nm.toList == [115, 101, 110, 100]) = false := by rw [hnm]; decide +kernel
        have e_3 : (nm.toList == [116, 114, 121, 115, 101, 110, 100]) = false := by rw [hnm]; decide +kernel
        have e_4 : (nm.toList == [114, 101, 99, 118]) = false := by rw [hnm]; decide +kernel
        have e_5 : (nm.toList == [116, 114, 121, 114, 101, 99, 118]) = false := by rw [hnm]; decide +kernel
        have e_6 : (nm.toList == [99, 97, 110, 99, 101, 108]) = false := by rw [hnm]; decide +kernel
        have e_7 : (nm.toList == [112, 117, 116]) = false := by rw [hnm]; decide +kernel
        have e_8 : (nm.toList == [116, 97, 107, 101]) = false := by rw [hnm]; decide +kernel
        clear hnm
        have hm1 : m = 1 := by rw [← HAL.out, HAG.out]; rfl
        subst hm1
        clear hm
        go_wp2_with (first
          | (go_at_call 65; refine (HI1.out W1 HT1.out).mono ?_; rintro er w2 ⟨rfl, hb2⟩; have HB2 := Lib.hid hb2; clear hb2)
          | (at_builtin; refine wpList_app rfl (.tmp 13) (.tmp 17) 57 9 rfl W1.heap.size (.string ⟨#[]⟩) 1 16 Tryz.underlying57 str_info rfl (by decide) none 0 0 (rows ([] : List ByteArray)) rfl (own_nil _ _ _ _) (some ⟨w2.heap.size, 0, none⟩) 1 1 (rows [z1]) rfl (by simp) rfl (blk_new (cs := rows [z1]) rfl).rd (rows_one _) (1) rfl (rows (([] : List ByteArray) ++ [z1])) (by rw [rows_append]) (by unfold maxLen; omega) (by omega) (by have := HB2.out.size; simp; omega) ?_; intro A3 c3 w3 hown3 hg3 hb3))
        go_meet
        exact ⟨A3, c3, rfl, by rw [HAG.out]; exact hown3, (HB2.out.alloc HB2.out.size _).trans hb3⟩
      · have e_0 : (nm.toList == ([] : List UInt8)) = false := by rw [hnm]; decide +kernel
        have e_1 : (nm.toList == [115, 101, 108, 101, 99, 116]) = false := by rw [hnm]; decide +kernel
        have e_2 : (nm.toList == [115, 101, 110, 100]) = false := by rw [hnm]; decide +kernel
        have e_3 : (nm.toList == [116, 114, 121, 115, 101, 110, 100]) = false := by rw [hnm]; decide +kernel
        have e_4 : (nm.toList == [114, 101, 99, 118]) = false := by rw [hnm]; decide +kernel
        have e_5 : (nm.toList == [116, 114, 121, 114, 101, 99, 118]) = false := by rw [hnm]; decide +kernel
        have e_6 : (nm.toList == [99, 97, 110, 99, 101, 108]) = false := by rw [hnm]; decide +kernel
        have e_7 : (nm.toList == [112, 117, 116]) = false := by rw [hnm]; decide +kernel
        have e_8 : (nm.toList == [116, 97, 107, 101]) = false := by rw [hnm]; decide +kernel
        clear hnm
        have hm1 : m = 1 := by rw [← HAL.out, HAG.out]; rfl
        subst hm1
        clear hm
        go_wp2_with (first
          | (go_at_call 65; refine (HI1.out W1 HT1.out).mono ?_; rintro er w2 ⟨rfl, hb2⟩; have HB2 := Lib.hid hb2; clear hb2)
          | (at_builtin; refine wpList_app rfl (.tmp 13) (.tmp 17) 57 9 rfl W1.heap.size (.string ⟨#[]⟩) 1 16 Tryz.underlying57 str_info rfl (by decide) none 0 0 (rows ([] : List ByteArray)) rfl (own_nil _ _ _ _) (some ⟨w2.heap.size, 0, none⟩) 1 1 (rows [z1]) rfl (by simp) rfl (blk_new (cs := rows [z1]) rfl).rd (rows_one _) (1) rfl (rows (([] : List ByteArray) ++ [z1])) (by rw [rows_append]) (by unfold maxLen; omega) (by omega) (by have := HB2.out.size; simp; omega) ?_; intro A3 c3 w3 hown3 hg3 hb3))
        go_meet
        exact ⟨A3, c3, rfl, by rw [HAG.out]; exact hown3, (HB2.out.alloc HB2.out.size _).trans hb3⟩
      · have e_0 : (nm.toList == ([] : List UInt8)) = false := by rw [hnm]; decide +kernel
        have e_1 : (nm.toList == [115, 101, 108, 101, 99, 116]) = false := by rw [hnm]; decide +kernel
        have e_2 : (nm.toList == [115, 101, 110, 100]) = false := by rw [hnm]; decide +kernel
        have e_3 : (nm.toList == [116, 114, 121, 115, 101, 110, 100]) = false := by rw [hnm]; decide +kernel
        have e_4 : (nm.toList == [114, 101, 99, 118]) = false := by rw [hnm]; decide +kernel
        have e_5 : (nm.toList == [116, 114, 121, 114, 101, 99, 118]) = false := by rw [hnm]; decide +kernel
        have e_6 : (nm.toList == [99, 97, 110, 99, 101, 108]) = false := by rw [hnm]; decide +kernel
        have e_7 : (nm.toList == [112, 117, 116]) = false := by rw [hnm]; decide +kernel
        have e_8 : (nm.toList == [116, 97, 107, 101]) = false := by rw [hnm]; decide +kernel
        clear hnm
        have hm1 : m = 1 := by rw [← HAL.out, HAG.out]; rfl
        subst hm1
        clear hm
        go_wp2_with (first
          | (go_at_call 65; refine (HI1.out W1 HT1.out).mono ?_; rintro er w2 ⟨rfl, hb2⟩; have HB2 := Lib.hid hb2; clear hb2)
          | (at_builtin; refine wpList_app rfl (.tmp 13) (.tmp 17) 57 9 rfl W1.heap.size (.string ⟨#[]⟩) 1 16 Tryz.underlying57 str_info rfl (by decide) none 0 0 (rows ([] : List ByteArray)) rfl (own_nil _ _ _ _) (some ⟨w2.heap.size, 0, none⟩) 1 1 (rows [z1]) rfl (by simp) rfl (blk_new (cs := rows [z1]) rfl).rd (rows_one _) (1) rfl (rows (([] : List ByteArray) ++ [z1])) (by rw [rows_append]) (by unfold maxLen; omega) (by omega) (by have := HB2.out.size; simp; omega) ?_; intro A3 c3 w3 hown3 hg3 hb3))
        go_meet
        exact ⟨A3, c3, rfl, by rw [HAG.out]; exact hown3, (HB2.out.alloc HB2.out.size _).trans hb3⟩

  case rest =>
    obtain ⟨A2, c2, rfl, hown, hb⟩ := hcut
    have HO2 := Lib.hid hown
    have HB2 := Lib.hid hb
    have HX2 := Lib.hid (HX1.out.below hb hwl)
    have HQ2 := Lib.hid (HQ1.out.below hb)
    have HE2 := Lib.hid (HE.out.below (B1.out.trans (hb.mono B1.out.size)))
    have HT2 := Lib.hid (HT1.out.below hb)
    have HM2 := Lib.hid (HM.out.below (B1.out.trans (hb.mono B1.out.size)))
    have BW2 := Lib.hid (B1.out.trans (hb.mono B1.out.size))
    have HRD := Lib.hid (own_rd hown)
    have HA2 := Lib.hid (fun e => And.intro (own_none hown e).1 (own_none hown e).2.1)
    clear hown hb
    have HJ : RowKit.Hid (∀ W base A c, W.ownsRow base 9 1 (.slice A (m + 1) c) (m + 1) (rows ([nm] ++ args)) → Calls Tryz.prog 33 #[.slice A (m + 1) c, .string ⟨#[32]⟩] W fun e w' => e = .returned (.string (sayS ⟨kd, ar, vl, df, QA, qn, qc⟩ cs)) ∧ Below W.heap.size W w') := Lib.hid (fun W base A c ho => by
      have hz := HZ.out
      have hq := HQ.out.len
      simp only at hq
      have e : (⟨(Lib.join (([nm] ++ args).map (·.data.toList)) [32]).toArray⟩ : ByteArray) = sayS ⟨kd, ar, vl, df, QA, qn, qc⟩ cs := HSY.out
      have hl : (Lib.join (([nm] ++ args).map (·.data.toList)) [32]).length = (sayS ⟨kd, ar, vl, df, QA, qn, qc⟩ cs).size := by rw [← e]; rfl
      rw [← e]
      exact join_own ho (Nat.succ_pos m) (by rw [List.length_append, HAL.out]; show 1 + m = m + 1; omega) (by omega) (by rw [hl]; omega))
    have HSP : RowKit.Hid (∀ W, MLT W → Calls Tryz.prog 47 #[.string (sayS ⟨kd, ar, vl, df, QA, qn, qc⟩ cs), .string ⟨#[32]⟩] W fun e w' => ∃ L cp, e = .returned (.slice (some ⟨L, 0, none⟩) (m + 1) cp) ∧ m + 1 ≤ cp ∧ Rd w' (some ⟨L, 0, none⟩) (rows (nm :: args)) ∧ Below W.heap.size W w') := Lib.hid (fun W hM => by
      refine (SplitC_any 32 (sayS ⟨kd, ar, vl, df, QA, qn, qc⟩ cs) W (by have := HZ.out; have h2 := HQ.out.len; simp only at h2; omega) hM).mono ?_
      rintro e w' ⟨L, cp, h1, h2, h3, h4, h5⟩
      rw [HW0.out, List.length_cons, HAL.out] at h1 h2
      rw [HW0.out] at h4
      exact ⟨L, cp, h1, h2, h4, h5⟩)
    have HCL : RowKit.Hid (∀ W L cp, m + 1 ≤ cp → Rd W (some ⟨L, 0, none⟩) (rows (nm :: args)) → ErrT W → TabT W → MLT W → Calls Tryz.prog 66 #[.slice (some ⟨L, 0, none⟩) (m + 1) cp] W fun e w' => CallNo (nm :: args) W e w' ∨ CallOk (nm :: args) W e w') := Lib.hid (fun W L cp h1 h2 h3 h4 h5 => call24_any _ (m + 1) cp (nm :: args) W (by rw [List.length_cons, HAL.out]) (by omega) h1 h2 (by
      intro x hx
      rcases List.mem_cons.1 hx with rfl | hx
      · have := HNO.out.1; omega
      · have := (HOK.out x hx).1; omega) h3 h4 h5)
    generalize hsy : sayS ⟨kd, ar, vl, df, QA, qn, qc⟩ cs = sy at *
    clear hsy
    unfold CallNo CallOk at HCL
    go_upto_region 27 with (first
      | (at_builtin; refine wpList_app rfl (.tmp 93) (.tmp 94) 57 9 rfl wc.heap.size (.string ⟨#[]⟩) 1 16 Tryz.underlying57 str_info rfl (by decide) (some ⟨wc.heap.size, 0, none⟩) 1 1 (rows [nm]) rfl (own_blk1 (blk_new (cs := rows [nm]) rfl) (Nat.le_refl _) rfl (by unfold maxLen; omega)) A2 m c2 (rows args) rfl HA2.out (by rw [rows_length, HAL.out]; rfl) (HRD.out.below ((Below.refl _ _).alloc (Nat.le_refl _) _)) (rows_one _) (m + 1) (by omega) (rows ([nm] ++ args)) (by rw [rows_append]) (by unfold maxLen; omega) (by omega) (by simp) ?_; intro A3 c3 w3 hown3 hg3 hb3; have HO3 := Lib.hid hown3; have HB3 := Lib.hid (((Below.refl wc.heap.size wc).alloc (Nat.le_refl _) _).trans hb3); clear hown3 hg3 hb3)
      | (go_at_call 33; refine (HJ.out w3 wc.heap.size A3 c3 HO3.out).mono ?_; rintro e w4 ⟨rfl, hb4⟩; have HB4 := Lib.hid (HB3.out.trans (hb4.mono HB3.out.size)); clear hb4))
    have HM4 := Lib.hid (HM2.out.below HB4.out)
    have HE4 := Lib.hid (HE2.out.below HB4.out)
    have HT4 := Lib.hid (HT2.out.below HB4.out)
    have HX4 := Lib.hid (HX2.out.below HB4.out HX2.out.lt)
    have HQ4 := Lib.hid (HQ2.out.below HB4.out)
    have BW4 := Lib.hid (BW2.out.trans (HB4.out.mono BW2.out.size))
    clear HJ HB3 HO3 HB4 HM2 HE2 HT2 HX2 HQ2 BW2 HO2 HRD HA2 x0 x1 x2 x3 x4
    go_upto_region 28 with (first
      | (go_at_call 47; refine (HSP.out w4 HM4.out).mono ?_; rintro e w5 ⟨L, cp, rfl, hle, hrd, hb5⟩; have HLE5 := Lib.hid hle; have HRD5 := Lib.hid hrd; have HB5 := Lib.hid hb5; clear hle hrd hb5)
      | (go_at_call 66; refine (HCL.out w5 L cp HLE5.out HRD5.out (HE4.out.below HB5.out) (HT4.out.below HB5.out) (HM4.out.below HB5.out)).mono ?_; rintro e w6 (⟨hcq, q9, rfl, hb6⟩ | ⟨r, A6, c6, hcq, rfl, hrd6, _, hb6⟩)))
    · have HV : RowKit.Hid (CS = ⟨#[]⟩) := Lib.hid (by rw [HS.out, hcq])
      have B6 := Lib.hid (BW4.out.trans ((HB5.out.trans (hb6.mono HB5.out.size)).mono BW4.out.size))
      clear hcq hb6 HS
      go_wp2
      go_ret
      exact ⟨by rw [HV.out]; rfl, B6.out.alloc B6.out.size _⟩
    · have HV : RowKit.Hid (CS = if sameQ ⟨kd, ar, vl, df, QA, qn, qc⟩ cs r = true then sy else ⟨#[]⟩) := Lib.hid (by rw [HS.out, hcq])
      have B6 := Lib.hid (BW4.out.trans ((HB5.out.trans (hb6.mono HB5.out.size)).mono BW4.out.size))
      have X6 := Lib.hid (HX4.out.below (HB5.out.trans (hb6.mono HB5.out.size)) HX4.out.lt)
      have Q6 := Lib.hid (HQ4.out.below (HB5.out.trans (hb6.mono HB5.out.size)))
      have hcl3 := callQ_len hcq
      obtain ⟨k2, a2, v2, d2, cs2⟩ := r
      simp only at hrd6 hcl3 HV
      generalize hrn : cs2.length = rn at *
      have HRN := Lib.hid hrn
      have P6 := Lib.hid (show ReqAt w6 ⟨k2, a2, v2, d2, A6, rn, c6⟩ cs2 from ⟨hrn, hrd6⟩)
      clear hcq hb6 HS hrn hrd6
      have HB2X := Lib.hid (Blk.new w6 24 (Reqr.cells ⟨k2, a2, v2, d2, A6, rn, c6⟩))
      have B7 := Lib.hid (B6.out.alloc B6.out.size (.cells (Reqr.cells ⟨k2, a2, v2, d2, A6, rn, c6⟩).toArray 24))
      have X7 := Lib.hid (X6.out.alloc (.cells (Reqr.cells ⟨k2, a2, v2, d2, A6, rn, c6⟩).toArray 24))
      have Q7 := Lib.hid (Q6.out.below ((Below.refl w6.heap.size w6).alloc (Nat.le_refl _) (.cells (Reqr.cells ⟨k2, a2, v2, d2, A6, rn, c6⟩).toArray 24)))
      have P7 := Lib.hid (P6.out.below ((Below.refl w6.heap.size w6).alloc (Nat.le_refl _) (.cells (Reqr.cells ⟨k2, a2, v2, d2, A6, rn, c6⟩).toArray 24)))
      have hW : RowKit.Hid (w6.alloc (.cells (Reqr.cells ⟨k2, a2, v2, d2, A6, rn, c6⟩).toArray 24) = w6.alloc (.cells #[.int .i64 k2, .int .i64 a2, .int .i64 v2, .bool d2, .slice A6 rn c6] 24)) := Lib.hid rfl
      rw [hW.out] at HB2X B7 X7 Q7 P7
      clear hW
      generalize w6.alloc (.cells #[.int .i64 k2, .int .i64 a2, .int .i64 v2, .bool d2, .slice A6 rn c6] 24) = W7 at *
      generalize w6.heap.size = b7 at *
      have y0 := HB2X.out.cell (i := 0) rfl
      have y1 := HB2X.out.cell (i := 1) rfl
      have y2 := HB2X.out.cell (i := 2) rfl
      have y3 := HB2X.out.cell (i := 3) rfl
      have y4 := HB2X.out.cell (i := 4) rfl
      have x0 := X7.out.cell (i := 0) rfl
      have x1 := X7.out.cell (i := 1) rfl
      have x2 := X7.out.cell (i := 2) rfl
      have x3 := X7.out.cell (i := 3) rfl
      have x4 := X7.out.cell (i := 4) rfl
      have HSM := Lib.hid (same24_any ⟨k2, a2, v2, d2, A6, rn, c6⟩ ⟨kd, ar, vl, df, QA, qn, qc⟩ cs2 cs W7 (by simp only; omega) (by simp only; omega) P7.out Q7.out)
      have HSQ : RowKit.Hid (sameQ ⟨kd, ar, vl, df, QA, qn, qc⟩ cs ⟨k2, a2, v2, d2, cs2⟩ = (k2 == kd && a2 == ar && v2 == vl && d2 == df && cs2 == cs)) := Lib.hid rfl
      unfold reqV at HSM
      simp only at HSM
      rw [HSQ.out] at HV
      generalize (k2 == kd && a2 == ar && v2 == vl && d2 == df && cs2 == cs) = bb at *
      clear HSQ P7 Q7 P6 Q6 HRN
      cases bb with
      | true =>
        go_wp2_with (go_at_call 52; refine HSM.out.mono ?_; rintro e w8 ⟨rfl, hb8⟩)
        go_ret
        exact ⟨by rw [HV.out]; rfl, B7.out.trans (hb8.mono B7.out.size)⟩
      | false =>
        go_wp2_with (go_at_call 52; refine HSM.out.mono ?_; rintro e w8 ⟨rfl, hb8⟩)
        go_ret
        exact ⟨by rw [HV.out]; rfl, B7.out.trans (hb8.mono B7.out.size)⟩


end Go.Proofs.YtalkllfgedacoaaGreatDoor
