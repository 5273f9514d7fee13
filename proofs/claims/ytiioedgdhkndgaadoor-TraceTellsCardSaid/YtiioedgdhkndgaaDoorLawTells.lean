/- The law TraceTells, walked: the lines of a trace, its counts, what one thread did, what was done to one word, the words that were changed. -/
import Derived.Test.YtiioedgdhkndgaaDoorAwake27
import Derived.Test.YtiioedgdhkndgaaDoorTrc4
import Derived.Test.YtiioedgdhkndgaaDoorTrc5
import Derived.Deep.RegionHeld3
namespace Go.Proofs.YtiioedgdhkndgaaDoor
open Go.RowKit Go.Sort

theorem neq_census (n0 n1 n2 n3 n4 : Int) (w : World) : (binOp .neq 86 (.agg #[.int .i64 n0, .int .i64 n1, .int .i64 n2, .int .i64 n3, .int .i64 n4]) (.agg #[.int .i64 n0, .int .i64 n1, .int .i64 n2, .int .i64 n3, .int .i64 n4])).run Tryd.prog w = .ok (.bool false) w := by
  simp [go_sem, binOp, Op.equal, Op.maxDepth]

set_option maxHeartbeats 16000000 in
set_option maxRecDepth 100000 in
theorem LawTells_any (B : Option Addr) (c : Nat) (l : List Acc) (t ad : Int) (w : World) (hl : l.length ≤ 4398046511104) (hok : ∀ a ∈ l, AccOk a) (hR : Rd w B (accs l)) (ht : TabT w) (hz : Tz16 w) :
    Calls Tryd.prog 9 #[.slice B l.length c, .int .i64 t, .int .i64 ad] w fun e w' => e = .returned (.bool true) ∧ Below w.heap.size w w' := by
  have HR := Lib.hid hR
  have HT := Lib.hid ht
  have HZ := Lib.hid hz
  have HOK := Lib.hid hok
  have HC1 := Lib.hid (fun W h => Count_any B c l W hl h)
  have HC2 := Lib.hid (fun W h => rCount_any B c l W hl h)
  have HO1 := Lib.hid (fun W h1 h => Of_any B c l t W h1 h)
  have HO2 := Lib.hid (fun W h1 h => rOf_any B c l t W h1 h)
  have HA1 := Lib.hid (fun W h1 h => AtAcc_any B c l ad W h1 h)
  have HA2 := Lib.hid (fun W h1 h => rAt_any B c l ad W h1 h)
  have HG1 := Lib.hid (fun W h1 h => Changed_any B c l W h1 h)
  have HG2 := Lib.hid (fun W h1 h => rChanged_any B c l W h1 h)
  have HLO := Lib.hid (sel_le (ofB t) l)
  have HLA := Lib.hid (sel_le (atB ad) l)
  have HLG := Lib.hid (chgS_le l)
  have HCV : RowKit.Hid (cntV l = cV (cnt cLoad l) (cnt cStore l) (cnt cSwap l) (cnt cVain l) (cnt cAdd l)) := Lib.hid rfl
  rw [HCV.out] at HC1 HC2
  clear hR ht hz hok HCV
  generalize cnt cLoad l = n0 at *
  generalize cnt cStore l = n1 at *
  generalize cnt cSwap l = n2 at *
  generalize cnt cVain l = n3 at *
  generalize cnt cAdd l = n4 at *
  generalize hn : l.length = n at *
  have HN := Lib.hid hn
  clear hn
  go_enter Tryd.func9, Tryd.ntmps9
  go_wp2_with fail
  refine (HC2.out _ HR.out).mono ?_
  rintro e w1 ⟨rfl, hb1⟩
  have HB1 := Lib.hid (hb1.alloc hb1.size (.cells (cC n0 n1 n2 n3 n4).toArray 83))
  have HBX := Lib.hid (Blk.new w1 83 (cC n0 n1 n2 n3 n4))
  have hgl := HBX.out.lt
  generalize hg7 : w1.heap.size = g7 at *
  clear hb1
  go_upto_region 2 with (fail)
  have hwo : w1.alloc (.cells (cC n0 n1 n2 n3 n4).toArray 83) = w1.alloc (.cells #[.int .i64 n0, .int .i64 n1, .int .i64 n2, .int .i64 n3, .int .i64 n4] 83) := rfl
  rw [hwo] at HB1 HBX hgl
  generalize w1.alloc (.cells #[.int .i64 n0, .int .i64 n1, .int .i64 n2, .int .i64 n3, .int .i64 n4] 83) = wo at *
  clear hg7 hwo
  obtain ⟨x0, x1, x2, x3, x4⟩ := cBox HBX.out
  have HNQ := neq_census n0 n1 n2 n3 n4
  have HD1 : RowKit.Hid (Rd wo.drew B (accs l)) := Lib.hid (HR.out.below (Below.drewN' HB1.out 1))
  cases hd : decide (200 < (n : Int))
  · go_region_held3 (fun w' => w'.cell? ⟨g7, 0, none⟩ = some (.int .i64 n0) ∧ w'.cell? ⟨g7, 1, none⟩ = some (.int .i64 n1) ∧ w'.cell? ⟨g7, 2, none⟩ = some (.int .i64 n2) ∧ w'.cell? ⟨g7, 3, none⟩ = some (.int .i64 n3) ∧ w'.cell? ⟨g7, 4, none⟩ = some (.int .i64 n4)) (first | go_keep | (simp only [hk1]; go_keep)) (first
      | (go_at_call 48; refine (HC1.out wo.drew HD1.out).mono ?_; rintro e w2 ⟨rfl, hb2⟩; have hB2 : Below wo.heap.size wo w2 := ⟨hb2.os, hb2.tape, hb2.output, hb2.size, hb2.block⟩; have hk1 := fun o => hB2.cell (p := ⟨g7, o, none⟩) hgl))
    have hn200 : n ≤ 200 := by simp at hd; omega
    have HW := Lib.hid (HB1.out.trans (hB2.mono HB1.out.size))
    clear hB2 hk1 x0 x1 x2 x3 x4 HBX HC1 HC2 HD1 HNQ hgl
    go_wp2
    go_loopg [39] n (fun g i wr => ∃ k : Nat, k ≤ n ∧ g = n - k ∧ i = .int .i64 k ∧ Below w.heap.size w wr)
    case atStart => exact ⟨0, Nat.zero_le _, rfl, rfl, HW.out⟩
    case round =>
      obtain ⟨k, hk, hg, rfl, hb⟩ := hrel
      have HG := Lib.hid hg
      have HB := Lib.hid hb
      clear hg hb
      by_cases hlt : k < n
      · have hkl : k < l.length := by rw [HN.out]; exact hlt
        obtain ⟨b, o, rfl, hbl, hc⟩ := HR.out.at_ (by rw [accs_length, HN.out]; omega)
        have hcr : ∀ i v, (accs l)[i]? = some v → wr.cell? ⟨b, o + i, none⟩ = some v := fun i v hi => by
          rw [HB.out.cell (p := ⟨b, o + i, none⟩) hbl]; exact hc i v hi
        have hmem : l.getD k Acc.none ∈ l := by simp [hkl]
        generalize hx : l.getD k Acc.none = x at hmem
        obtain ⟨e0, e1, e2, e3, e4, e5, e6⟩ := acc_cells hcr hkl hx
        have hxo := HOK.out x hmem
        have HL1 := Lib.hid (fun W h1 h2 => Line_any x W hxo h1 h2)
        have HL2 := Lib.hid (fun W => rLine_any x W hxo)
        have HF1 := Lib.hid (fun W => Changes_any x W)
        have HF2 := Lib.hid (fun W => rChanges_any x W)
        clear hcr hc hx hkl hmem hxo
        go_upto_region 7 with (fail)
        have HBO := Lib.hid (HB.out.alloc HB.out.size (.cells #[.int .i64 x.thread, .int .i64 x.kind, .int .i64 x.addr, .int .u64 x.want, .int .u64 x.old, .int .u64 x.now, .bool x.ok] 74))
        have HBX := Lib.hid (show Blk (wr.alloc (.cells #[.int .i64 x.thread, .int .i64 x.kind, .int .i64 x.addr, .int .u64 x.want, .int .u64 x.old, .int .u64 x.now, .bool x.ok] 74)) wr.heap.size 74 x.cells from Blk.new wr 74 x.cells)
        generalize wr.alloc (.cells #[.int .i64 x.thread, .int .i64 x.kind, .int .i64 x.addr, .int .u64 x.want, .int .u64 x.old, .int .u64 x.now, .bool x.ok] 74) = wp at *
        have hgl := HBX.out.lt
        obtain ⟨x0, x1, x2, x3, x4, x5, x6⟩ := accBox HBX.out
        generalize wr.heap.size = gb at *
        clear e0 e1 e2 e3 e4 e5 e6
        have HT1 := Lib.hid (HT.out.below (Below.drewN' HBO.out 1))
        have HZ1 := Lib.hid (HZ.out.below (Below.drewN' HBO.out 1))
        have q1 : ((lineS x).toList == (lineS x).toList) = true := by simp
        have q2 : (chgB x == chgB x) = true := by simp
        have q3 : ((lineS x).toList != (lineS x).toList) = false := by simp
        have q4 : (chgB x != chgB x) = false := by simp
        generalize lineS x = s at *
        generalize chgB x = cb at *
        go_region_held3 (fun w' => w'.cell? ⟨gb, 0, none⟩ = some (.int .i64 x.thread) ∧ w'.cell? ⟨gb, 1, none⟩ = some (.int .i64 x.kind) ∧ w'.cell? ⟨gb, 2, none⟩ = some (.int .i64 x.addr) ∧ w'.cell? ⟨gb, 3, none⟩ = some (.int .u64 x.want) ∧ w'.cell? ⟨gb, 4, none⟩ = some (.int .u64 x.old) ∧ w'.cell? ⟨gb, 5, none⟩ = some (.int .u64 x.now) ∧ w'.cell? ⟨gb, 6, none⟩ = some (.bool x.ok)) (first | go_keep | (simp only [hk1]; go_keep)) (first
          | (go_at_call 49; refine (HL1.out wp.drew HT1.out HZ1.out).mono ?_; rintro e w6 ⟨rfl, hb6⟩; have hB6 : Below wp.heap.size wp w6 := ⟨hb6.os, hb6.tape, hb6.output, hb6.size, hb6.block⟩; have hk1 := fun o => hB6.cell (p := ⟨gb, o, none⟩) hgl)
          | (go_at_call 50; refine (HL2.out w6).mono ?_; rintro e w7 ⟨rfl, hb7⟩; have hB7 : Below wp.heap.size wp w7 := hB6.trans (hb7.mono hB6.size); have hk1 := fun o => hB7.cell (p := ⟨gb, o, none⟩) hgl)
          | (go_at_call 51; refine (HF1.out w7).mono ?_; rintro e w8 ⟨rfl, hb8⟩; have hB8 : Below wp.heap.size wp w8 := hB7.trans (hb8.mono hB7.size); have hk1 := fun o => hB8.cell (p := ⟨gb, o, none⟩) hgl)
          | (go_at_call 52; refine (HF2.out w8).mono ?_; rintro e w9 ⟨rfl, hb9⟩; have hB9 : Below wp.heap.size wp w9 := hB8.trans (hb9.mono hB8.size); have hk1 := fun o => hB9.cell (p := ⟨gb, o, none⟩) hgl))
        have HB9 := Lib.hid (HBO.out.trans (hB9.mono HBO.out.size))
        clear hk1 hB9 x0 x1 x2 x3 x4 x5 x6
        go_wp2
        go_roundg (n - (k + 1))
        case measure => rw [HG.out]; omega
        case rel => exact ⟨k + 1, by omega, rfl, by go_num, HB9.out⟩
      · obtain rfl : n = k := by omega
        go_wp2_with fail
        refine (HO1.out _ (by omega) (HR.out.below HB.out)).mono ?_
        rintro e v1 ⟨A1, c1, rfl, hr1, hb1⟩
        have HV1 := Lib.hid (HB.out.trans (hb1.mono HB.out.size))
        have HR1 := Lib.hid hr1
        clear hr1 hb1
        go_wp2_with fail
        refine (HO2.out _ (by omega) (HR.out.below HV1.out)).mono ?_
        rintro e v2 ⟨A2, c2, rfl, hr2, hb2⟩
        have HV2 := Lib.hid (HV1.out.trans (hb2.mono HV1.out.size))
        have HE := Lib.hid (Log_any A1 A2 c1 c2 _ _ v2 (by have := HLO.out; unfold maxLen; omega) (by have := HLO.out; unfold maxLen; omega) (HR1.out.below hb2) hr2)
        rw [beq_self_eq_true] at HE
        clear hr2 hb2
        generalize (l.filter (ofB t)).length = m1 at *
        go_wp2_with fail
        refine HE.out.mono ?_
        rintro e v3 ⟨rfl, hb3⟩
        have HV3 := Lib.hid (HV2.out.trans (hb3.mono HV2.out.size))
        clear hb3 HE HR1 HV1 HV2
        go_wp2_with fail
        refine (HA1.out _ (by omega) (HR.out.below HV3.out)).mono ?_
        rintro e v4 ⟨A1, c1, rfl, hr1, hb1⟩
        have HV4 := Lib.hid (HV3.out.trans (hb1.mono HV3.out.size))
        have HR1 := Lib.hid hr1
        clear hr1 hb1
        go_wp2_with fail
        refine (HA2.out _ (by omega) (HR.out.below HV4.out)).mono ?_
        rintro e v5 ⟨A2, c2, rfl, hr2, hb2⟩
        have HV5 := Lib.hid (HV4.out.trans (hb2.mono HV4.out.size))
        have HE := Lib.hid (Log_any A1 A2 c1 c2 _ _ v5 (by have := HLA.out; unfold maxLen; omega) (by have := HLA.out; unfold maxLen; omega) (HR1.out.below hb2) hr2)
        rw [beq_self_eq_true] at HE
        clear hr2 hb2
        generalize (l.filter (atB ad)).length = m2 at *
        go_wp2_with fail
        refine HE.out.mono ?_
        rintro e v6 ⟨rfl, hb3⟩
        have HV6 := Lib.hid (HV5.out.trans (hb3.mono HV5.out.size))
        clear hb3 HE HR1 HV3 HV4 HV5
        go_wp2_with fail
        refine (HG1.out _ (by omega) (HR.out.below HV6.out)).mono ?_
        rintro e v7 ⟨A1, c1, rfl, hr1, hb1⟩
        have HV7 := Lib.hid (HV6.out.trans (hb1.mono HV6.out.size))
        have HR1 := Lib.hid hr1
        clear hr1 hb1
        go_wp2_with fail
        refine (HG2.out _ (by omega) (HR.out.below HV7.out)).mono ?_
        rintro e v8 ⟨A2, c2, rfl, hr2, hb2⟩
        have HV8 := Lib.hid (HV7.out.trans (hb2.mono HV7.out.size))
        have HE := Lib.hid (Ints_any A1 A2 c1 c2 _ _ v8 (by have := HLG.out; unfold maxLen; omega) (by have := HLG.out; unfold maxLen; omega) (HR1.out.below hb2) hr2)
        rw [beq_self_eq_true] at HE
        clear hr2 hb2
        generalize (chgS l).length = m3 at *
        go_wp2_with fail
        refine HE.out.mono ?_
        rintro e v9 ⟨rfl, hb3⟩
        have HV9 := Lib.hid (HV8.out.trans (hb3.mono HV8.out.size))
        have HAW := Lib.hid (awake27_any v9 (HT.out.below HV9.out) (HZ.out.below HV9.out))
        clear hb3 HE HR1 HV6 HV7 HV8
        go_wp2_with fail
        refine HAW.out.mono ?_
        rintro e v10 ⟨rfl, hb4⟩
        go_wp2
        go_ret
        exact ⟨rfl, HV9.out.trans (hb4.mono HV9.out.size)⟩
  · go_region_held3 (fun w' => w'.cell? ⟨g7, 0, none⟩ = some (.int .i64 n0) ∧ w'.cell? ⟨g7, 1, none⟩ = some (.int .i64 n1) ∧ w'.cell? ⟨g7, 2, none⟩ = some (.int .i64 n2) ∧ w'.cell? ⟨g7, 3, none⟩ = some (.int .i64 n3) ∧ w'.cell? ⟨g7, 4, none⟩ = some (.int .i64 n4)) (first | go_keep | (simp only [hk1]; go_keep)) (first
      | (go_at_call 48; refine (HC1.out wo.drew HD1.out).mono ?_; rintro e w2 ⟨rfl, hb2⟩; have hB2 : Below wo.heap.size wo w2 := ⟨hb2.os, hb2.tape, hb2.output, hb2.size, hb2.block⟩; have hk1 := fun o => hB2.cell (p := ⟨g7, o, none⟩) hgl))
    have HW := Lib.hid (HB1.out.trans (hB2.mono HB1.out.size))
    have HAW := Lib.hid (awake27_any w2 (HT.out.below HW.out) (HZ.out.below HW.out))
    clear hB2 hk1 x0 x1 x2 x3 x4
    go_wp2_with fail
    refine HAW.out.mono ?_
    rintro e w3 ⟨rfl, hb3⟩
    go_wp2
    go_ret
    exact ⟨rfl, HW.out.trans (hb3.mono HW.out.size)⟩

end Go.Proofs.YtiioedgdhkndgaaDoor
