/- A hall, line by line: the program's, walked. -/
import Derived.Test.YtalkllfgedacoaaGreatDoorO25
namespace Go.Proofs.YtalkllfgedacoaaGreatDoor
open Go.RowKit Go.Sort

set_option maxHeartbeats 64000000 in
set_option maxRecDepth 100000 in
theorem vHall_any (tck : Int) (cA : Option Addr) (cn cc : Nat) (chans : List Chn) (wA : Option Addr) (wn wc : Nat) (waits : List Wtr) (dA : Option Addr) (dn dc : Nat) (dl : List Resr) (w : World) (h0 : In64 tck)
    (hcl : chans.length = cn) (hcn : cn ≤ 1048576) (hci : ∀ x ∈ chans, ChnIn x) (hcr : Rd w cA (rows chans)) (hwl : waits.length = wn) (hwn : wn ≤ 1048576) (hwi : ∀ x ∈ waits, WtrIn x) (hwr : Rd w wA (rows waits))
    (hdl : dl.length = dn) (hdn : dn ≤ 1048576) (hdi : ∀ x ∈ dl, In64 x.seq ∧ In64 x.value ∧ In64 x.case_) (hdr : Rd w dA (rows dl)) (hv : HIn chans waits w) :
    Calls Tryz.prog 17 #[.agg #[.int .i64 tck, .slice cA cn cc, .slice wA wn wc, .slice dA dn dc]] w fun e w' => ∃ A m c, e = .returned (.slice A m c) ∧ (hallS tck chans waits dl).length = m ∧ m ≤ 4194304 ∧ Rd w' A (rows (hallS tck chans waits dl)) ∧ Below w.heap.size w w' := by
  have HVAL : RowKit.Hid (hallS tck chans waits dl = [⟨#[116, 105, 99, 107, 101, 116, 32]⟩ ++ itoaS tck] ++ linesS chanL Chn.none chans cn ++ linesS waitL Wtr.none waits wn ++ donesS dl) := Lib.hid (by rw [← hcl, ← hwl]; rfl)
  have HX : RowKit.Hid (Blk (w.alloc (.cells #[.int .i64 tck, .slice cA cn cc, .slice wA wn wc, .slice dA dn dc] 52)) w.heap.size 52 [.int .i64 tck, .slice cA cn cc, .slice wA wn wc, .slice dA dn dc]) := Lib.hid (Blk.new w _ _)
  have HB0 := Lib.hid ((Below.refl w.heap.size w).alloc (Nat.le_refl _) (.cells #[.int .i64 tck, .slice cA cn cc, .slice wA wn wc, .slice dA dn dc] 52))
  have HD := Lib.hid (fun W (h : HIn chans waits W) => dec_any tck W h0 h.tab)
  have HPZ : RowKit.Hid (HIn chans waits (w.alloc (.cells #[.int .i64 tck, .slice cA cn cc, .slice wA wn wc, .slice dA dn dc] 52))) := Lib.hid (hv.below HB0.out)
  have HCR := Lib.hid (hcr.below HB0.out)
  have HCL := Lib.hid hcl
  have HCI := Lib.hid hci
  have HWR := Lib.hid (hwr.below HB0.out)
  have HWL := Lib.hid hwl
  have HWI := Lib.hid hwi
  have HDR := Lib.hid (hdr.below HB0.out)
  have HDL := Lib.hid hdl
  have HDI := Lib.hid hdi
  have HCB := Lib.hid (fun W (h : HIn chans waits W) => h.bufs)
  have HWB := Lib.hid (fun W (h : HIn chans waits W) => h.cses)
  have HPT := Lib.hid (fun W (h : HIn chans waits W) => h.tab)
  have HPE := Lib.hid (fun W (h : HIn chans waits W) => h.err)
  have HPM := Lib.hid (fun W (h : HIn chans waits W) => h.ml)
  have k0 := itoaS_size h0
  generalize hP : HIn chans waits = P at *
  have HBL : RowKit.Hid (∀ (w w' : World), P w → Below w.heap.size w w' → P w') := Lib.hid (by rw [← hP]; exact fun w w' h hb => HIn.below h hb)
  generalize hallS tck chans waits dl = T at *
  generalize itoaS tck = z at *
  have d0 : ¬ 9223372036854775807 < 7 + z.size := by omega
  clear hP h0 hcl hci hcr hwl hwi hwr hdl hdi hdr hv k0
  go_enter Tryz.func17, Tryz.ntmps17
  go_upto_region 1 with (fail)
  generalize w.alloc (.cells #[.int .i64 tck, .slice cA cn cc, .slice wA wn wc, .slice dA dn dc] 52) = W1 at *
  have HWLT := Lib.hid HX.out.lt
  have x0 := HX.out.cell (i := 0) rfl
  go_upto_region 2 with (go_at_call 35; refine (HD.out _ HPZ.out).mono ?_; rintro er v1 ⟨rfl, hb1⟩; have HB1 := Lib.hid hb1; clear hb1)
  have HO2 : RowKit.Hid ((v1.alloc (.cells #[.string (⟨#[116, 105, 99, 107, 101, 116, 32]⟩ ++ z)] 9)).ownsRow W1.heap.size 9 1 (.slice (some ⟨v1.heap.size, 0, none⟩) 1 1) 1 (rows [⟨#[116, 105, 99, 107, 101, 116, 32]⟩ ++ z])) := Lib.hid (own_blk1 (blk_new (cs := rows [⟨#[116, 105, 99, 107, 101, 116, 32]⟩ ++ z]) rfl) HB1.out.size rfl (by unfold maxLen; omega))
  have HB2 := Lib.hid (HB1.out.alloc HB1.out.size (.cells #[.string (⟨#[116, 105, 99, 107, 101, 116, 32]⟩ ++ z)] 9))
  clear x0 d0
  generalize ⟨#[116, 105, 99, 107, 101, 116, 32]⟩ ++ z = Z at *
  generalize v1.alloc (.cells #[.string Z] 9) = W2 at *
  generalize v1.heap.size = g2 at *
  have x1 := (HB2.out.cell (p := ⟨w.heap.size, 1, none⟩) HWLT.out).trans (HX.out.cell (i := 1) rfl)
  clear HB1 HD
  go_wp2_with fail
  go_loopg [18, 3] cn (fun gg i s wr => ∃ (k m : Nat) (A : Option Addr) (cp : Nat), k ≤ cn ∧ gg = cn - k ∧ i = .int .i64 k ∧ s = .slice A m cp ∧ m ≤ 1 + k ∧ m = ([Z] ++ linesS chanL Chn.none chans k).length ∧ wr.ownsRow W1.heap.size 9 1 (.slice A m cp) m (rows ([Z] ++ linesS chanL Chn.none chans k)) ∧ Below W1.heap.size W1 wr)
  case atStart => exact ⟨0, 1, some ⟨g2, 0, none⟩, 1, Nat.zero_le _, rfl, rfl, rfl, by omega, by rw [linesS, List.append_nil]; exact rfl, by rw [linesS, List.append_nil]; exact HO2.out, HB2.out⟩
  case round =>
    obtain ⟨k, m, A, cp, hk, hg, rfl, rfl, hm, hml, hown, hb⟩ := hrel
    have HG := Lib.hid hg
    have HO := Lib.hid hown
    have HB := Lib.hid hb
    have HML := Lib.hid hml
    clear hg hown hb hml
    by_cases hlt : k < cn
    · have q1 : (k : Int) < ((cn : Nat) : Int) := by omega
      have hkl : k < chans.length := by rw [HCL.out]; exact hlt
      obtain ⟨b2, o2, hA, hbl, hcl⟩ := (HCR.out.below HB.out).at_ (by rw [rows_length]; exact Nat.mul_pos (by omega) (by decide))
      subst hA
      obtain ⟨y0, y1, y2, y3, y4⟩ := chn_cells hcl hkl rfl
      have hmem : chans.getD k Chn.none ∈ chans := by rw [List.getD, List.getElem?_eq_getElem hkl]; exact List.getElem_mem hkl
      have HIN := Lib.hid (HCI.out _ hmem)
      have HPX := Lib.hid (HBL.out _ _ HPZ.out HB.out)
      have HBF := Lib.hid (HCB.out _ HPX.out _ hmem)
      have HTK : RowKit.Hid ([Z] ++ linesS chanL Chn.none chans (k + 1) = ([Z] ++ linesS chanL Chn.none chans k) ++ [chanS (k : Int) (chans.getD k Chn.none)]) := Lib.hid (by
        rw [linesS, ← List.append_assoc]
        rfl)
      clear hcl hkl hmem
      generalize chans.getD k Chn.none = x at *
      generalize [Z] ++ linesS chanL Chn.none chans k = LL at *
      obtain ⟨gen, cap, us, cl, BA, bc, bl⟩ := x
      simp only at y0 y1 y2 y3 y4 HBF
      have HKI : In64 (k : Int) := ⟨by omega, by omega⟩
      generalize hbn : bl.length = bn at *
      have HE1 := Lib.hid (fun W (h : P W) (hr : Rd W BA (ints bl)) => channel_any (k : Int) ⟨gen, cap, us, cl, BA, bc, bl⟩ W HKI HIN.out.gen HIN.out.cap HIN.out.len HIN.out.buf hr (HPT.out _ h))
      unfold chnV at HE1
      simp only [hbn] at HE1
      clear hbn
      generalize chanS (k : Int) ⟨gen, cap, us, cl, BA, bc, bl⟩ = zz at *
      go_upto_region 5 with (fail)
      have HBX : RowKit.Hid (Blk (wr.alloc (.cells #[.int .i64 gen, .int .i64 cap, .bool us, .bool cl, .slice BA bn bc] 91)) wr.heap.size 91 [.int .i64 gen, .int .i64 cap, .bool us, .bool cl, .slice BA bn bc]) := Lib.hid (Blk.new wr _ _)
      have HBA := Lib.hid ((Below.refl wr.heap.size wr).alloc (Nat.le_refl _) (.cells #[.int .i64 gen, .int .i64 cap, .bool us, .bool cl, .slice BA bn bc] 91))
      have HBWA := Lib.hid (HB.out.alloc HB.out.size (.cells #[.int .i64 gen, .int .i64 cap, .bool us, .bool cl, .slice BA bn bc] 91))
      have HPW := Lib.hid (HBL.out _ _ HPX.out HBA.out)
      have HBW := Lib.hid (HBF.out.below HBA.out)
      have HOA := Lib.hid (fun (v : World) (h : Below (wr.alloc (.cells #[.int .i64 gen, .int .i64 cap, .bool us, .bool cl, .slice BA bn bc] 91)).heap.size (wr.alloc (.cells #[.int .i64 gen, .int .i64 cap, .bool us, .bool cl, .slice BA bn bc] 91)) v) => own_below HO.out (HBA.out.trans (h.mono HBA.out.size)))
      generalize (wr.alloc (.cells #[.int .i64 gen, .int .i64 cap, .bool us, .bool cl, .slice BA bn bc] 91)) = WA at *
      generalize wr.heap.size = br at *
      have hgl := HBX.out.lt
      have y5 := HBX.out.cell (i := 0) rfl
      have y6 := HBX.out.cell (i := 1) rfl
      have y7 := HBX.out.cell (i := 2) rfl
      have y8 := HBX.out.cell (i := 3) rfl
      have y9 := HBX.out.cell (i := 4) rfl
      go_wp2_with (first
        | (go_at_call 41; refine (HE1.out WA HPW.out HBW.out).mono ?_; rintro er v1 ⟨rfl, hb1⟩; have hB1 : Below WA.heap.size WA v1 := hb1)
        | (at_builtin; refine wpList_app ?_ (.tmp 23) (.tmp 27) 57 9 ?_ W1.heap.size (.string ⟨#[]⟩) 1 16 Tryz.underlying57 str_info ?_ ?_ A m cp (rows LL) ?_ ((HOA.out v1 hB1).alloc _) _ 1 1 (rows [zz]) (by rfl) ?_ ?_ ?_ (rows_one _) (m + 1) rfl (rows LL ++ rows [zz]) rfl ?_ ?_ ?_ ?_; rfl; rfl; rfl; decide; rfl; simp; rfl; exact rd_one _ _; (unfold maxLen; omega); omega; (focus (have := hB1.size; have := HBWA.out.size; rw [World.size_alloc]; omega)); intro A4 d4 w4 hown4 hg4 hb4; have hB4 : Below W1.heap.size W1 w4 := ((HBWA.out.trans (hB1.mono HBWA.out.size)).alloc (HBWA.out.trans (hB1.mono HBWA.out.size)).size _).trans hb4))
      have HO4 := Lib.hid hown4
      have HB4 := Lib.hid hB4
      clear hown4 hg4 hb4 hB4
      go_wp2_with fail
      go_roundg (cn - (k + 1))
      case measure => rw [HG.out]; omega
      case rel => exact ⟨k + 1, m + 1, A4, d4, by omega, rfl, by go_num, rfl, by omega, by rw [HTK.out, List.length_append, HML.out]; rfl, by rw [HTK.out, rows_append]; exact HO4.out, HB4.out⟩
    · obtain rfl : k = cn := by omega
      have q1 : ¬ (k : Int) < (k : Int) := by omega
      have HM := Lib.hid hm
      clear hm HO2 HB2 x1
      have x2 := (HB.out.cell (p := ⟨w.heap.size, 2, none⟩) HWLT.out).trans (HX.out.cell (i := 2) rfl)
      have HVL : RowKit.Hid (T = ([Z] ++ linesS chanL Chn.none chans k) ++ linesS waitL Wtr.none waits wn ++ donesS dl) := HVAL
      generalize [Z] ++ linesS chanL Chn.none chans k = L1 at *
      have HO2 := HO
      have HB2 := HB
      have HML2 := HML
      have hm2 : m ≤ 1048577 := by have := HM.out; omega
      clear HO HB HML HM HG HVAL hk
      generalize k = cn at *
      generalize wr = W2 at *
      generalize A = A2 at *
      generalize cp = c2 at *
      generalize m = m2 at *
      go_wp2_with fail
      go_loopg [33, 3] wn (fun gg i s wr => ∃ (k m : Nat) (A : Option Addr) (cp : Nat), k ≤ wn ∧ gg = wn - k ∧ i = .int .i64 k ∧ s = .slice A m cp ∧ m ≤ 1048577 + k ∧ m = (L1 ++ linesS waitL Wtr.none waits k).length ∧ wr.ownsRow W1.heap.size 9 1 (.slice A m cp) m (rows (L1 ++ linesS waitL Wtr.none waits k)) ∧ Below W1.heap.size W1 wr)
      case atStart => exact ⟨0, m2, A2, c2, Nat.zero_le _, rfl, rfl, rfl, by omega, by rw [linesS, List.append_nil]; exact HML2.out, by rw [linesS, List.append_nil]; exact HO2.out, HB2.out⟩
      case round =>
        obtain ⟨k, m, A, cp, hk, hg, rfl, rfl, hm, hml, hown, hb⟩ := hrel
        have HG := Lib.hid hg
        have HO := Lib.hid hown
        have HB := Lib.hid hb
        have HML := Lib.hid hml
        clear hg hown hb hml
        by_cases hlt : k < wn
        · have q1 : (k : Int) < ((wn : Nat) : Int) := by omega
          have hkl : k < waits.length := by rw [HWL.out]; exact hlt
          obtain ⟨b2, o2, hA, hbl, hcl⟩ := (HWR.out.below HB.out).at_ (by rw [rows_length]; exact Nat.mul_pos (by omega) (by decide))
          subst hA
          obtain ⟨y0, y1, y2, y3⟩ := wtr_cells hcl hkl rfl
          have hmem : waits.getD k Wtr.none ∈ waits := by rw [List.getD, List.getElem?_eq_getElem hkl]; exact List.getElem_mem hkl
          have HIN := Lib.hid (HWI.out _ hmem)
          have HPX := Lib.hid (HBL.out _ _ HPZ.out HB.out)
          have HBF := Lib.hid (HWB.out _ HPX.out _ hmem)
          have HTK : RowKit.Hid (L1 ++ linesS waitL Wtr.none waits (k + 1) = (L1 ++ linesS waitL Wtr.none waits k) ++ waitL (k : Int) (waits.getD k Wtr.none)) := Lib.hid (by
            rw [linesS, ← List.append_assoc])
          clear hcl hkl hmem
          generalize waits.getD k Wtr.none = x at *
          generalize L1 ++ linesS waitL Wtr.none waits k = LL at *
          obtain ⟨on, tk, sq, QA, qc, qs⟩ := x
          simp only at y0 y1 y2 y3 HBF
          have HKI : In64 (k : Int) := ⟨by omega, by omega⟩
          have HRQ : RowKit.Hid (ReqAt wr ⟨3, 0, 0, false, QA, qs.length, qc⟩ qs) := Lib.hid ⟨rfl, HBF.out⟩
          have HCI2 : RowKit.Hid (CallIn ⟨3, 0, 0, false, QA, qs.length, qc⟩ qs) := Lib.hid ⟨in64_zero, in64_zero, HIN.out.cs⟩
          have HE0 := Lib.hid (fun W (h : P W) => dec_any (k : Int) W HKI (HPT.out _ h))
          have HE1 := Lib.hid (fun W (h : P W) => dec_any tk W HIN.out.ticket (HPT.out _ h))
          have HES := Lib.hid (fun W (h : P W) (hr : ReqAt W ⟨3, 0, 0, false, QA, qs.length, qc⟩ qs) => Say24_any ⟨3, 0, 0, false, QA, qs.length, qc⟩ qs W hr HIN.out.len HCI2.out (HPE.out _ h) (HPT.out _ h) (HPM.out _ h))
          unfold reqV at HES
          simp only at HES
          have t0 := itoaS_size HKI
          have t1 := itoaS_size HIN.out.ticket
          have t2 := callS_size HCI2.out
          have t3 := HIN.out.len
          simp only at t1 t3
          have HWS : RowKit.Hid (waitS (k : Int) ⟨true, tk, sq, QA, qc, qs⟩ = ⟨#[119, 97, 105, 116, 32]⟩ ++ itoaS (k : Int) ++ ⟨#[32, 116, 105, 99, 107, 101, 116, 32]⟩ ++ itoaS tk ++ ⟨#[32]⟩ ++ callS ⟨3, 0, 0, false, QA, qs.length, qc⟩ qs) := Lib.hid rfl
          generalize callS ⟨3, 0, 0, false, QA, qs.length, qc⟩ qs = cc at *
          generalize itoaS (k : Int) = z0 at *
          generalize itoaS tk = z1 at *
          generalize qs.length = qn at *
          have e0 : ¬ 9223372036854775807 < 5 + z0.size := by omega
          have e1 : ¬ 9223372036854775807 < 5 + z0.size + 8 := by omega
          have e2 : ¬ 9223372036854775807 < 5 + z0.size + 8 + z1.size := by omega
          have e3 : ¬ 9223372036854775807 < 5 + z0.size + 8 + z1.size + 1 := by omega
          have e4 : ¬ 9223372036854775807 < 5 + z0.size + 8 + z1.size + 1 + cc.size := by omega
          clear t0 t1 t2 t3 HBF
          cases on with
          | false =>
            have HTL : RowKit.Hid (L1 ++ linesS waitL Wtr.none waits (k + 1) = LL) := Lib.hid (by rw [HTK.out]; exact List.append_nil LL)
            go_upto_region 10 with (fail)
            have HBX : RowKit.Hid (Blk (wr.alloc (.cells #[.bool false, .int .i64 tk, .int .i64 sq, .slice QA qn qc] 94)) wr.heap.size 94 [.bool false, .int .i64 tk, .int .i64 sq, .slice QA qn qc]) := Lib.hid (Blk.new wr _ _)
            have HBA := Lib.hid ((Below.refl wr.heap.size wr).alloc (Nat.le_refl _) (.cells #[.bool false, .int .i64 tk, .int .i64 sq, .slice QA qn qc] 94))
            have HBWA := Lib.hid (HB.out.alloc HB.out.size (.cells #[.bool false, .int .i64 tk, .int .i64 sq, .slice QA qn qc] 94))
            have HPW := Lib.hid (HBL.out _ _ HPX.out HBA.out)
            have HRW := Lib.hid (HRQ.out.below HBA.out)
            have HOA := Lib.hid (fun (v : World) (h : Below (wr.alloc (.cells #[.bool false, .int .i64 tk, .int .i64 sq, .slice QA qn qc] 94)).heap.size (wr.alloc (.cells #[.bool false, .int .i64 tk, .int .i64 sq, .slice QA qn qc] 94)) v) => own_below HO.out (HBA.out.trans (h.mono HBA.out.size)))
            have HNE := Lib.hid (own_ne HO.out)
            generalize (wr.alloc (.cells #[.bool false, .int .i64 tk, .int .i64 sq, .slice QA qn qc] 94)) = WA at *
            generalize wr.heap.size = br at *
            have hgl := HBX.out.lt
            have y5 := HBX.out.cell (i := 0) rfl
            clear y0 y1 y2 y3
            go_wp2_with fail
            go_roundg (wn - (k + 1))
            case measure => rw [HG.out]; omega
            case rel => exact ⟨k + 1, m, A, cp, by omega, rfl, by go_num, rfl, by omega, by rw [HTL.out, HML.out], by rw [HTL.out]; exact HOA.out WA (Below.refl _ _), HBWA.out⟩
          | true =>
            have HTL : RowKit.Hid (L1 ++ linesS waitL Wtr.none waits (k + 1) = LL ++ [⟨#[119, 97, 105, 116, 32]⟩ ++ z0 ++ ⟨#[32, 116, 105, 99, 107, 101, 116, 32]⟩ ++ z1 ++ ⟨#[32]⟩ ++ cc]) := Lib.hid (by rw [HTK.out, ← HWS.out]; rfl)
            clear HTK HWS
            go_upto_region 10 with (fail)
            have HBX : RowKit.Hid (Blk (wr.alloc (.cells #[.bool true, .int .i64 tk, .int .i64 sq, .slice QA qn qc] 94)) wr.heap.size 94 [.bool true, .int .i64 tk, .int .i64 sq, .slice QA qn qc]) := Lib.hid (Blk.new wr _ _)
            have HBA := Lib.hid ((Below.refl wr.heap.size wr).alloc (Nat.le_refl _) (.cells #[.bool true, .int .i64 tk, .int .i64 sq, .slice QA qn qc] 94))
            have HBWA := Lib.hid (HB.out.alloc HB.out.size (.cells #[.bool true, .int .i64 tk, .int .i64 sq, .slice QA qn qc] 94))
            have HPW := Lib.hid (HBL.out _ _ HPX.out HBA.out)
            have HRW := Lib.hid (HRQ.out.below HBA.out)
            have HOA := Lib.hid (fun (v : World) (h : Below (wr.alloc (.cells #[.bool true, .int .i64 tk, .int .i64 sq, .slice QA qn qc] 94)).heap.size (wr.alloc (.cells #[.bool true, .int .i64 tk, .int .i64 sq, .slice QA qn qc] 94)) v) => own_below HO.out (HBA.out.trans (h.mono HBA.out.size)))
            have HNE := Lib.hid (own_ne HO.out)
            generalize (wr.alloc (.cells #[.bool true, .int .i64 tk, .int .i64 sq, .slice QA qn qc] 94)) = WA at *
            generalize wr.heap.size = br at *
            have hgl := HBX.out.lt
            have y5 := HBX.out.cell (i := 0) rfl
            have y6 := HBX.out.cell (i := 1) rfl
            have y7 := HBX.out.cell (i := 3) rfl
            have HP0 : RowKit.Hid (P WA.drew) := Lib.hid (HBL.out _ _ HPW.out (Below.drewN' (Below.refl _ _) 1))
            have HRD : RowKit.Hid (∀ v : World, Rd (v.alloc (.cells #[.string (⟨#[119, 97, 105, 116, 32]⟩ ++ z0 ++ ⟨#[32, 116, 105, 99, 107, 101, 116, 32]⟩ ++ z1 ++ ⟨#[32]⟩ ++ cc)] 9)) (some ⟨v.heap.size, 0, none⟩) (rows [⟨#[119, 97, 105, 116, 32]⟩ ++ z0 ++ ⟨#[32, 116, 105, 99, 107, 101, 116, 32]⟩ ++ z1 ++ ⟨#[32]⟩ ++ cc])) := Lib.hid (fun v => rd_one v _)
            clear y0 y1 y2 y3
            go_upto_region 11 with (fail)
            go_region_held3 (fun w' => w'.cell? ⟨br, 1, none⟩ = some (.int .i64 tk) ∧ w'.cell? ⟨br, 3, none⟩ = some (.slice QA qn qc)) (first | go_keep | (simp only [hk0]; go_keep)) (first
              | (go_at_call 35; (with_reducible refine (HE0.out WA.drew HP0.out).mono ?_); rintro er v1 ⟨rfl, hb1⟩; have hB1 : Below WA.heap.size WA v1 := ⟨hb1.os, hb1.tape, hb1.output, hb1.size, hb1.block⟩; have hk0 := fun o => hB1.cell (p := ⟨br, o, none⟩) hgl; have HP1 := Lib.hid (HBL.out _ _ HPW.out hB1); have HR1 := Lib.hid (HRW.out.below hB1))
              | (go_at_call 35; (with_reducible refine (HE1.out v1 HP1.out).mono ?_); rintro er v2 ⟨rfl, hb2⟩; have hB2 : Below WA.heap.size WA v2 := hB1.trans (hb2.mono hB1.size); have hk0 := fun o => hB2.cell (p := ⟨br, o, none⟩) hgl; have HP2 := Lib.hid (HBL.out _ _ HPW.out hB2); have HR2 := Lib.hid (HRW.out.below hB2))
              | (go_at_call 31; (with_reducible refine (HES.out v2 HP2.out HR2.out).mono ?_); rintro er v3 ⟨rfl, hb3⟩; have hB3 : Below WA.heap.size WA v3 := hB2.trans (hb3.mono hB2.size); have hk0 := fun o => hB3.cell (p := ⟨br, o, none⟩) hgl)
              | (refine step_app ?_ (.tmp 40) (.tmp 55) 57 9 ?_ W1.heap.size (.string ⟨#[]⟩) 1 16 Tryz.underlying57 str_info ?_ ?_ A m cp (rows LL) ?_ ((HOA.out v3 hB3).alloc _) _ 1 1 (rows [⟨#[119, 97, 105, 116, 32]⟩ ++ z0 ++ ⟨#[32, 116, 105, 99, 107, 101, 116, 32]⟩ ++ z1 ++ ⟨#[32]⟩ ++ cc]) (by rfl) ?_ ?_ ?_ (rows_one _) (m + 1) rfl (rows LL ++ rows [⟨#[119, 97, 105, 116, 32]⟩ ++ z0 ++ ⟨#[32, 116, 105, 99, 107, 101, 116, 32]⟩ ++ z1 ++ ⟨#[32]⟩ ++ cc]) rfl ?_ ?_ ?_ ?_; rfl; rfl; rfl; decide; rfl; simp; rfl; exact HRD.out v3; (unfold maxLen; omega); omega; (focus (have := hB3.size; have := HBWA.out.size; rw [World.size_alloc]; omega)); intro A4 d4 w4 hown4 hg4 hb4; have hB4 : Below W1.heap.size W1 w4 := ((HBWA.out.trans (hB3.mono HBWA.out.size)).alloc (HBWA.out.trans (hB3.mono HBWA.out.size)).size _).trans hb4; have hX4 := blk_grown ((HBX.out.below hB3 hgl).alloc _) hg4 HNE.out; have f0 := hX4.cell (i := 1) rfl; have f1 := hX4.cell (i := 3) rfl))
            have HO4 := Lib.hid hown4
            have HB4 := Lib.hid hB4
            clear hX4 f0 f1 hk0 hown4 hg4 hb4 hB4
            go_wp2_with fail
            go_roundg (wn - (k + 1))
            case measure => rw [HG.out]; omega
            case rel => exact ⟨k + 1, m + 1, A4, d4, by omega, rfl, by go_num, rfl, by omega, by rw [HTL.out, List.length_append, HML.out]; rfl, by rw [HTL.out, rows_append]; exact HO4.out, HB4.out⟩
        · obtain rfl : k = wn := by omega
          have q1 : ¬ (k : Int) < (k : Int) := by omega
          have HM := Lib.hid hm
          clear hm HO2 HB2 HML2 hm2 x2
          have x3 := (HB.out.cell (p := ⟨w.heap.size, 3, none⟩) HWLT.out).trans (HX.out.cell (i := 3) rfl)
          have HVM : RowKit.Hid (T = (L1 ++ linesS waitL Wtr.none waits k) ++ donesS dl) := HVL
          generalize L1 ++ linesS waitL Wtr.none waits k = L2 at *
          have HO2 := HO
          have HB2 := HB
          have HML2 := HML
          have hm2 : m ≤ 2097153 := by have := HM.out; omega
          clear HO HB HML HM HG HVL hk
          generalize k = wn at *
          generalize wr = W2 at *
          generalize A = A2 at *
          generalize cp = c2 at *
          generalize m = m2 at *
          go_wp2_with fail
          go_loopg [61, 3] dn (fun gg i s wr => ∃ (k m : Nat) (A : Option Addr) (cp : Nat), k ≤ dn ∧ gg = dn - k ∧ i = .int .i64 k ∧ s = .slice A m cp ∧ m ≤ 2200000 + k ∧ m = (L2 ++ linesS doneL Resr.none dl k).length ∧ wr.ownsRow W1.heap.size 9 1 (.slice A m cp) m (rows (L2 ++ linesS doneL Resr.none dl k)) ∧ Below W1.heap.size W1 wr)
          case atStart => exact ⟨0, m2, A2, c2, Nat.zero_le _, rfl, rfl, rfl, by omega, by rw [linesS, List.append_nil]; exact HML2.out, by rw [linesS, List.append_nil]; exact HO2.out, HB2.out⟩
          case round =>
            obtain ⟨k, m, A, cp, hk, hg, rfl, rfl, hm, hml, hown, hb⟩ := hrel
            have HG := Lib.hid hg
            have HO := Lib.hid hown
            have HB := Lib.hid hb
            have HML := Lib.hid hml
            clear hg hown hb hml
            by_cases hlt : k < dn
            · have q1 : (k : Int) < ((dn : Nat) : Int) := by omega
              have hkl : k < dl.length := by rw [HDL.out]; exact hlt
              obtain ⟨b2, o2, hA, hbl, hcl⟩ := (HDR.out.below HB.out).at_ (by rw [rows_length]; exact Nat.mul_pos (by omega) (by decide))
              subst hA
              obtain ⟨y0, y1, y2, y3⟩ := rsr_cells hcl hkl rfl
              have HIN := Lib.hid (HDI.out (dl.getD k Resr.none) (by rw [List.getD, List.getElem?_eq_getElem hkl]; exact List.getElem_mem hkl))
              have HTK : RowKit.Hid (L2 ++ linesS doneL Resr.none dl (k + 1) = (L2 ++ linesS doneL Resr.none dl k) ++ [doneS (k : Int) (dl.getD k Resr.none)]) := Lib.hid (by
                rw [linesS, ← List.append_assoc]
                rfl)
              clear hcl hkl
              generalize dl.getD k Resr.none = x at *
              generalize L2 ++ linesS doneL Resr.none dl k = LL at *
              obtain ⟨rs, rc, re, rv⟩ := x
              simp only at y0 y1 y2 y3 HIN
              have HKI : In64 (k : Int) := ⟨by omega, by omega⟩
              have HE1 := Lib.hid (fun W (h : P W) => dec_any (k : Int) W HKI (HPT.out _ h))
              have HE2 := Lib.hid (fun W (h : P W) => vRes_any ⟨rs, rc, re, rv⟩ W HIN.out.1 HIN.out.2.1 HIN.out.2.2 (HPT.out _ h))
              unfold rsV at HE2
              simp only at HE2
              have hz1 := itoaS_size HKI
              have hz2 := resS_size (r := ⟨rs, rc, re, rv⟩) HIN.out.1 HIN.out.2.1 HIN.out.2.2
              unfold doneS at HTK
              generalize itoaS (k : Int) = z1 at *
              generalize resS ⟨rs, rc, re, rv⟩ = z2 at *
              have d0 : ¬ 9223372036854775807 < 5 + z1.size := by omega
              have d1 : ¬ 9223372036854775807 < 5 + z1.size + 1 := by omega
              have d2 : ¬ 9223372036854775807 < 5 + z1.size + 1 + z2.size := by omega
              clear hz1 hz2 HKI
              have HPX := Lib.hid (HBL.out _ _ HPZ.out HB.out)
              go_upto_region 16 with (fail)
              have HBX : RowKit.Hid (Blk (wr.alloc (.cells #[.int .i64 rs, .int .i64 rc, .int .i64 re, .int .i64 rv] 36)) wr.heap.size 36 [.int .i64 rs, .int .i64 rc, .int .i64 re, .int .i64 rv]) := Lib.hid (Blk.new wr _ _)
              have HBA := Lib.hid ((Below.refl wr.heap.size wr).alloc (Nat.le_refl _) (.cells #[.int .i64 rs, .int .i64 rc, .int .i64 re, .int .i64 rv] 36))
              have HBWA := Lib.hid (HB.out.alloc HB.out.size (.cells #[.int .i64 rs, .int .i64 rc, .int .i64 re, .int .i64 rv] 36))
              have HPW := Lib.hid (HBL.out _ _ HPX.out HBA.out)
              have HOA := Lib.hid (fun (v : World) (h : Below (wr.alloc (.cells #[.int .i64 rs, .int .i64 rc, .int .i64 re, .int .i64 rv] 36)).heap.size (wr.alloc (.cells #[.int .i64 rs, .int .i64 rc, .int .i64 re, .int .i64 rv] 36)) v) => own_below HO.out (HBA.out.trans (h.mono HBA.out.size)))
              have HNE := Lib.hid (own_ne HO.out)
              generalize wr.alloc (.cells #[.int .i64 rs, .int .i64 rc, .int .i64 re, .int .i64 rv] 36) = WA at *
              generalize wr.heap.size = br at *
              have y4 := HBX.out.cell (i := 0) rfl
              have y5 := HBX.out.cell (i := 1) rfl
              have y6 := HBX.out.cell (i := 2) rfl
              have y7 := HBX.out.cell (i := 3) rfl
              have hgl := HBX.out.lt
              have HP0 : RowKit.Hid (P WA.drew) := Lib.hid (HBL.out _ _ HPW.out (Below.drewN' (Below.refl _ _) 1))
              go_region_held3 (fun w' => w'.cell? ⟨br, 0, none⟩ = some (.int .i64 rs) ∧ w'.cell? ⟨br, 1, none⟩ = some (.int .i64 rc) ∧ w'.cell? ⟨br, 2, none⟩ = some (.int .i64 re) ∧ w'.cell? ⟨br, 3, none⟩ = some (.int .i64 rv)) (first | go_keep | (simp only [hk0]; go_keep)) (first
                | (go_at_call 35; (with_reducible refine (HE1.out WA.drew HP0.out).mono ?_); rintro er v1 ⟨rfl, hb1⟩; have hB1 : Below WA.heap.size WA v1 := ⟨hb1.os, hb1.tape, hb1.output, hb1.size, hb1.block⟩; have hk0 := fun o => hB1.cell (p := ⟨br, o, none⟩) hgl; have HP1 := Lib.hid (HBL.out _ _ HPW.out hB1))
                | (go_at_call 38; (with_reducible refine (HE2.out v1 HP1.out).mono ?_); rintro er v2 ⟨rfl, hb2⟩; have hB2 : Below WA.heap.size WA v2 := hB1.trans (hb2.mono hB1.size); have hk0 := fun o => hB2.cell (p := ⟨br, o, none⟩) hgl; have HP2 := Lib.hid (HBL.out _ _ HPW.out hB2))
                | (refine step_app ?_ (.tmp 66) (.tmp 74) 57 9 ?_ W1.heap.size (.string ⟨#[]⟩) 1 16 Tryz.underlying57 str_info ?_ ?_ A m cp (rows LL) ?_ ((HOA.out v2 hB2).alloc _) _ 1 1 (rows [⟨#[100, 111, 110, 101, 32]⟩ ++ z1 ++ ⟨#[32]⟩ ++ z2]) (by rfl) ?_ ?_ ?_ (rows_one _) (m + 1) rfl (rows LL ++ rows [⟨#[100, 111, 110, 101, 32]⟩ ++ z1 ++ ⟨#[32]⟩ ++ z2]) rfl ?_ ?_ ?_ ?_; rfl; rfl; rfl; decide; rfl; simp; rfl; exact (blk_new (cs := rows [⟨#[100, 111, 110, 101, 32]⟩ ++ z1 ++ ⟨#[32]⟩ ++ z2]) (by rfl)).rd; (unfold maxLen; omega); omega; (focus (have := hB2.size; have := HBWA.out.size; rw [World.size_alloc]; omega)); intro A4 d4 w4 hown4 hg4 hb4; have hB4 : Below W1.heap.size W1 w4 := ((HBWA.out.trans (hB2.mono HBWA.out.size)).alloc (HBWA.out.trans (hB2.mono HBWA.out.size)).size _).trans hb4; have hX4 := blk_grown ((HBX.out.below hB2 hgl).alloc _) hg4 HNE.out; have f0 := hX4.cell (i := 0) rfl; have f1 := hX4.cell (i := 1) rfl; have f2 := hX4.cell (i := 2) rfl; have f3 := hX4.cell (i := 3) rfl))
              have HO4 := Lib.hid hown4
              have HB4 := Lib.hid hB4
              clear hX4 f0 f1 f2 f3 hk0 hown4 hg4 hb4 hB4
              go_wp2_with fail
              go_roundg (dn - (k + 1))
              case measure => rw [HG.out]; omega
              case rel => exact ⟨k + 1, m + 1, A4, d4, by omega, rfl, by go_num, rfl, by omega, by rw [HTK.out, List.length_append, HML.out]; rfl, by rw [HTK.out, rows_append]; exact HO4.out, HB4.out⟩
            · obtain rfl : k = dn := by omega
              have q1 : ¬ (k : Int) < (k : Int) := by omega
              have HF : RowKit.Hid (L2 ++ linesS doneL Resr.none dl k = L2 ++ donesS dl) := Lib.hid (by rw [donesS, HDL.out])
              have HN : RowKit.Hid (m = m2 + k) := Lib.hid (by rw [HML.out, HF.out, List.length_append, lines_done dl k HDL.out, HML2.out])
              go_wp2_with fail
              go_ret
              have hrd := own_rd HO.out
              rw [HF.out, ← HVM.out] at hrd
              have hfb := HB0.out.trans (HB.out.mono HB0.out.size)
              have hlen : T.length = m := by rw [HVM.out, ← HF.out, HML.out]
              have hmm : m ≤ 4194304 := by have := HN.out; omega
              first | exact ⟨A, m, cp, rfl, hlen, hmm, hrd, hfb⟩ | exact ⟨A, m, ⟨cp, rfl⟩, hlen, hmm, hrd, hfb⟩

end Go.Proofs.YtalkllfgedacoaaGreatDoor
