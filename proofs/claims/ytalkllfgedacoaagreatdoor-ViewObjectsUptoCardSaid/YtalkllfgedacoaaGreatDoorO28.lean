/- The law ViewObjects, walked. -/
import Derived.Test.YtalkllfgedacoaaGreatDoorO25
import Derived.Test.YtalkllfgedacoaaGreatDoorO24
import Derived.Test.YtalkllfgedacoaaGreatDoorO26
import Derived.Test.YtalkllfgedacoaaGreatDoorO27
import Derived.Test.YtalkllfgedacoaaGreatDoorO23
namespace Go.Proofs.YtalkllfgedacoaaGreatDoor
open Go.RowKit Go.Sort

set_option maxHeartbeats 16000000 in
set_option maxRecDepth 100000 in
theorem vCells_any (cap : Int) (LA : Option Addr) (ln lc : Nat) (ll : List Int) (dA : Option Addr) (dn dc : Nat) (dl : List Resr) (w : World) (h0 : In64 cap) (hll : ll.length = ln) (hln : ln ≤ 1048576) (hli : ∀ x ∈ ll, In64 x) (hlr : Rd w LA (ints ll)) (hdl : dl.length = dn) (hdn : dn ≤ 1048576) (hdi : ∀ x ∈ dl, In64 x.seq ∧ In64 x.value ∧ In64 x.case_) (hdr : Rd w dA (rows dl)) (ht : TabT w) :
    Calls Tryz.prog 19 #[.agg #[.int .i64 cap, .slice LA ln lc, .slice dA dn dc]] w fun e w' => ∃ A c, e = .returned (.slice A (dn + 1) c) ∧ Rd w' A (rows (cellsS cap ll dl)) ∧ Below w.heap.size w w' := by
  have HVAL : RowKit.Hid (cellsS cap ll dl = [⟨#[99, 97, 112, 32]⟩ ++ itoaS cap ++ ⟨#[32, 104, 97, 115]⟩ ++ lsS ⟨#[]⟩ ll] ++ donesS dl) := Lib.hid rfl
  have HX : RowKit.Hid (Blk (w.alloc (.cells #[.int .i64 cap, .slice LA ln lc, .slice dA dn dc] 55)) w.heap.size 55 [.int .i64 cap, .slice LA ln lc, .slice dA dn dc]) := Lib.hid (Blk.new w _ _)
  have HB0 := Lib.hid ((Below.refl w.heap.size w).alloc (Nat.le_refl _) (.cells #[.int .i64 cap, .slice LA ln lc, .slice dA dn dc] 55))
  have HD := Lib.hid (fun W (h : TabT W ∧ Rd W LA (ints ll)) => dec_any cap W h0 h.1)
  have HLS := Lib.hid (fun W (h : TabT W ∧ Rd W LA (ints ll)) => vlist_any LA ln lc ll W hll hln hli h.2 h.1)
  have HPZ : RowKit.Hid (TabT (w.alloc (.cells #[.int .i64 cap, .slice LA ln lc, .slice dA dn dc] 55)) ∧ Rd (w.alloc (.cells #[.int .i64 cap, .slice LA ln lc, .slice dA dn dc] 55)) LA (ints ll)) := Lib.hid ⟨ht.below HB0.out, hlr.below HB0.out⟩
  have HDR := Lib.hid (hdr.below HB0.out)
  have HDL := Lib.hid hdl
  have HDI := Lib.hid hdi
  have k0 := itoaS_size h0
  have k1 := lsS_size ll ⟨#[]⟩ hli
  have k2 : (⟨#[]⟩ : ByteArray).size = 0 := rfl
  rw [k2] at k1
  generalize hP : (fun W : World => TabT W ∧ Rd W LA (ints ll)) = P at *
  have hP' : ∀ W : World, (TabT W ∧ Rd W LA (ints ll)) = P W := fun W => by rw [← hP]
  simp only [hP'] at HD HLS HPZ
  have HBL : RowKit.Hid (∀ (w w' : World), P w → Below w.heap.size w w' → P w') := Lib.hid (by rw [← hP]; exact fun w w' h hb => ⟨h.1.below hb, h.2.below hb⟩)
  have HPT : RowKit.Hid (∀ W : World, P W → TabT W) := Lib.hid (by rw [← hP]; exact fun W h => h.1)
  generalize cellsS cap ll dl = T at *
  generalize lsS ⟨#[]⟩ ll = ls at *
  generalize itoaS cap = z at *
  have d0 : ¬ 9223372036854775807 < 4 + z.size := by omega
  have d1 : ¬ 9223372036854775807 < 4 + z.size + 4 := by omega
  have d2 : ¬ 9223372036854775807 < 4 + z.size + 4 + ls.size := by omega
  clear hP hP' h0 hll hln hli hlr hdl hdi hdr ht k0 k1 k2
  go_enter Tryz.func19, Tryz.ntmps19
  go_upto_region 1 with (fail)
  generalize w.alloc (.cells #[.int .i64 cap, .slice LA ln lc, .slice dA dn dc] 55) = W1 at *
  have hwl := HX.out.lt
  have x0 := HX.out.cell (i := 0) rfl
  have x1 := HX.out.cell (i := 1) rfl
  have x2 := HX.out.cell (i := 2) rfl
  have HPW := HPZ
  have HP0 : RowKit.Hid (P W1.drew) := Lib.hid (HBL.out _ _ HPW.out (Below.drewN' (Below.refl _ _) 1))
  go_region_held3 (fun w' => w'.cell? ⟨w.heap.size, 0, none⟩ = some (.int .i64 cap) ∧ w'.cell? ⟨w.heap.size, 1, none⟩ = some (.slice LA ln lc)) (first | go_keep | (simp only [hk0]; go_keep)) (first
    | (go_at_call 35; (with_reducible refine (HD.out W1.drew HP0.out).mono ?_); rintro er v1 ⟨rfl, hb1⟩; have hB1 : Below W1.heap.size W1 v1 := ⟨hb1.os, hb1.tape, hb1.output, hb1.size, hb1.block⟩; have hk0 := fun o => hB1.cell (p := ⟨w.heap.size, o, none⟩) hwl; have HP1 := Lib.hid (HBL.out _ _ HPW.out hB1))
    | (go_at_call 45; (with_reducible refine (HLS.out v1 HP1.out).mono ?_); rintro er v2 ⟨rfl, hb2⟩; have hB2 : Below W1.heap.size W1 v2 := hB1.trans (hb2.mono hB1.size); have hk0 := fun o => hB2.cell (p := ⟨w.heap.size, o, none⟩) hwl; have HP2 := Lib.hid (HBL.out _ _ HPW.out hB2)))
  have HO2 : RowKit.Hid ((v2.alloc (.cells #[.string (⟨#[99, 97, 112, 32]⟩ ++ z ++ ⟨#[32, 104, 97, 115]⟩ ++ ls)] 9)).ownsRow W1.heap.size 9 1 (.slice (some ⟨v2.heap.size, 0, none⟩) 1 1) 1 (rows [⟨#[99, 97, 112, 32]⟩ ++ z ++ ⟨#[32, 104, 97, 115]⟩ ++ ls])) := Lib.hid (own_blk1 (blk_new (cs := rows [⟨#[99, 97, 112, 32]⟩ ++ z ++ ⟨#[32, 104, 97, 115]⟩ ++ ls]) rfl) hB2.size rfl (by unfold maxLen; omega))
  have HB2 := Lib.hid (hB2.alloc hB2.size (.cells #[.string (⟨#[99, 97, 112, 32]⟩ ++ z ++ ⟨#[32, 104, 97, 115]⟩ ++ ls)] 9))
  clear hk0 hb1 hb2 hB1 hB2 HP0 HP1 HP2 x0 x1 x2
  go_upto_region 2 with (fail)
  generalize ⟨#[99, 97, 112, 32]⟩ ++ z ++ ⟨#[32, 104, 97, 115]⟩ ++ ls = Z at *
  generalize v2.alloc (.cells #[.string Z] 9) = W2 at *
  generalize v2.heap.size = g2 at *
  have x2 := (HB2.out.cell (p := ⟨w.heap.size, 2, none⟩) hwl).trans (HX.out.cell (i := 2) rfl)
  go_wp2_with fail
  go_loopg [19, 3] dn (fun gg i s wr => ∃ (k m : Nat) (A : Option Addr) (cp : Nat), k ≤ dn ∧ gg = dn - k ∧ i = .int .i64 k ∧ s = .slice A m cp ∧ m ≤ 2200000 + k ∧ m = ([Z] ++ linesS doneL Resr.none dl k).length ∧ wr.ownsRow W1.heap.size 9 1 (.slice A m cp) m (rows ([Z] ++ linesS doneL Resr.none dl k)) ∧ Below W1.heap.size W1 wr)
  case atStart => exact ⟨0, 1, some ⟨g2, 0, none⟩, 1, Nat.zero_le _, rfl, rfl, rfl, by omega, by rw [linesS, List.append_nil]; exact rfl, by rw [linesS, List.append_nil]; exact HO2.out, HB2.out⟩
  case round =>
    obtain ⟨k, m, A, cp, hk, hg, rfl, rfl, hm, hml, hown, hb⟩ := hrel
    have HG := Lib.hid hg
    have HO := Lib.hid hown
    have HB := Lib.hid hb
    have HML := Lib.hid hml
    clear hg hown hb hml
    by_cases hlt : k < dn
    · have q1 : (k : Int) < ((dn : Nat) : Int) := by omega
      have hkl : k < dl.length := by rw [HDL.out]; exact hlt
      obtain ⟨b2, o2, hA, hbl, hcl⟩ := (HDR.out.below HB.out).at_ (by rw [rows_length]; exact Nat.mul_pos (by omega) (by decide))
      subst hA
      obtain ⟨y0, y1, y2, y3⟩ := rsr_cells hcl hkl rfl
      have HIN := Lib.hid (HDI.out (dl.getD k Resr.none) (by rw [List.getD, List.getElem?_eq_getElem hkl]; exact List.getElem_mem hkl))
      have HTK : RowKit.Hid ([Z] ++ linesS doneL Resr.none dl (k + 1) = ([Z] ++ linesS doneL Resr.none dl k) ++ [doneS (k : Int) (dl.getD k Resr.none)]) := Lib.hid (by
        rw [linesS, ← List.append_assoc]
        rfl)
      clear hcl hkl
      generalize dl.getD k Resr.none = x at *
      generalize [Z] ++ linesS doneL Resr.none dl k = LL at *
      obtain ⟨rs, rc, re, rv⟩ := x
      simp only at y0 y1 y2 y3 HIN
      have HKI : In64 (k : Int) := ⟨by omega, by omega⟩
      have HE1 := Lib.hid (fun W (h : P W) => dec_any (k : Int) W HKI (HPT.out _ h))
      have HE2 := Lib.hid (fun W (h : P W) => vRes_any ⟨rs, rc, re, rv⟩ W HIN.out.1 HIN.out.2.1 HIN.out.2.2 (HPT.out _ h))
      unfold rsV at HE2
      simp only at HE2
      have hz1 := itoaS_size HKI
      have hz2 := resS_size (r := ⟨rs, rc, re, rv⟩) HIN.out.1 HIN.out.2.1 HIN.out.2.2
      unfold doneS at HTK
      generalize itoaS (k : Int) = z1 at *
      generalize resS ⟨rs, rc, re, rv⟩ = z2 at *
      have d0 : ¬ 9223372036854775807 < 5 + z1.size := by omega
      have d1 : ¬ 9223372036854775807 < 5 + z1.size + 1 := by omega
      have d2 : ¬ 9223372036854775807 < 5 + z1.size + 1 + z2.size := by omega
      clear hz1 hz2 HKI
      have HPX := Lib.hid (HBL.out _ _ HPZ.out HB.out)
      go_upto_region 5 with (fail)
      have HBX : RowKit.Hid (Blk (wr.alloc (.cells #[.int .i64 rs, .int .i64 rc, .int .i64 re, .int .i64 rv] 36)) wr.heap.size 36 [.int .i64 rs, .int .i64 rc, .int .i64 re, .int .i64 rv]) := Lib.hid (Blk.new wr _ _)
      have HBA := Lib.hid ((Below.refl wr.heap.size wr).alloc (Nat.le_refl _) (.cells #[.int .i64 rs, .int .i64 rc, .int .i64 re, .int .i64 rv] 36))
      have HBWA := Lib.hid (HB.out.alloc HB.out.size (.cells #[.int .i64 rs, .int .i64 rc, .int .i64 re, .int .i64 rv] 36))
      have HPW := Lib.hid (HBL.out _ _ HPX.out HBA.out)
      have HOA := Lib.hid (fun (v : World) (h : Below (wr.alloc (.cells #[.int .i64 rs, .int .i64 rc, .int .i64 re, .int .i64 rv] 36)).heap.size (wr.alloc (.cells #[.int .i64 rs, .int .i64 rc, .int .i64 re, .int .i64 rv] 36)) v) => own_below HO.out (HBA.out.trans (h.mono HBA.out.size)))
      have HNE := Lib.hid (own_ne HO.out)
      generalize wr.alloc (.cells #[.int .i64 rs, .int .i64 rc, .int .i64 re, .int .i64 rv] 36) = WA at *
      generalize wr.heap.size = br at *
      have y4 := HBX.out.cell (i := 0) rfl
      have y5 := HBX.out.cell (i := 1) rfl
      have y6 := HBX.out.cell (i := 2) rfl
      have y7 := HBX.out.cell (i := 3) rfl
      have hgl := HBX.out.lt
      have HP0 : RowKit.Hid (P WA.drew) := Lib.hid (HBL.out _ _ HPW.out (Below.drewN' (Below.refl _ _) 1))
      go_region_held3 (fun w' => w'.cell? ⟨br, 0, none⟩ = some (.int .i64 rs) ∧ w'.cell? ⟨br, 1, none⟩ = some (.int .i64 rc) ∧ w'.cell? ⟨br, 2, none⟩ = some (.int .i64 re) ∧ w'.cell? ⟨br, 3, none⟩ = some (.int .i64 rv)) (first | go_keep | (simp only [hk0]; go_keep)) (first
        | (go_at_call 35; (with_reducible refine (HE1.out WA.drew HP0.out).mono ?_); rintro er v1 ⟨rfl, hb1⟩; have hB1 : Below WA.heap.size WA v1 := ⟨hb1.os, hb1.tape, hb1.output, hb1.size, hb1.block⟩; have hk0 := fun o => hB1.cell (p := ⟨br, o, none⟩) hgl; have HP1 := Lib.hid (HBL.out _ _ HPW.out hB1))
        | (go_at_call 38; (with_reducible refine (HE2.out v1 HP1.out).mono ?_); rintro er v2 ⟨rfl, hb2⟩; have hB2 : Below WA.heap.size WA v2 := hB1.trans (hb2.mono hB1.size); have hk0 := fun o => hB2.cell (p := ⟨br, o, none⟩) hgl; have HP2 := Lib.hid (HBL.out _ _ HPW.out hB2))
        | (refine step_app ?_ (.tmp 24) (.tmp 32) 57 9 ?_ W1.heap.size (.string ⟨#[]⟩) 1 16 Tryz.underlying57 str_info ?_ ?_ A m cp (rows LL) ?_ ((HOA.out v2 hB2).alloc _) _ 1 1 (rows [⟨#[100, 111, 110, 101, 32]⟩ ++ z1 ++ ⟨#[32]⟩ ++ z2]) (by rfl) ?_ ?_ ?_ (rows_one _) (m + 1) rfl (rows LL ++ rows [⟨#[100, 111, 110, 101, 32]⟩ ++ z1 ++ ⟨#[32]⟩ ++ z2]) rfl ?_ ?_ ?_ ?_; rfl; rfl; rfl; decide; rfl; simp; rfl; exact (blk_new (cs := rows [⟨#[100, 111, 110, 101, 32]⟩ ++ z1 ++ ⟨#[32]⟩ ++ z2]) (by rfl)).rd; (unfold maxLen; omega); omega; (focus (have := hB2.size; have := HBWA.out.size; rw [World.size_alloc]; omega)); intro A4 d4 w4 hown4 hg4 hb4; have hB4 : Below W1.heap.size W1 w4 := ((HBWA.out.trans (hB2.mono HBWA.out.size)).alloc (HBWA.out.trans (hB2.mono HBWA.out.size)).size _).trans hb4; have hX4 := blk_grown ((HBX.out.below hB2 hgl).alloc _) hg4 HNE.out; have f0 := hX4.cell (i := 0) rfl; have f1 := hX4.cell (i := 1) rfl; have f2 := hX4.cell (i := 2) rfl; have f3 := hX4.cell (i := 3) rfl))
      have HO4 := Lib.hid hown4
      have HB4 := Lib.hid hB4
      clear hX4 f0 f1 f2 f3 hk0 hown4 hg4 hb4 hB4
      go_wp2_with fail
      go_roundg (dn - (k + 1))
      case measure => rw [HG.out]; omega
      case rel => exact ⟨k + 1, m + 1, A4, d4, by omega, rfl, by go_num, rfl, by omega, by rw [HTK.out, List.length_append, HML.out]; rfl, by rw [HTK.out, rows_append]; exact HO4.out, HB4.out⟩
    · obtain rfl : k = dn := by omega
      have q1 : ¬ (k : Int) < (k : Int) := by omega
      have HF : RowKit.Hid ([Z] ++ linesS doneL Resr.none dl k = [Z] ++ donesS dl) := Lib.hid (by rw [donesS, HDL.out])
      have HN : RowKit.Hid (m = k + 1) := Lib.hid (by rw [HML.out, HF.out, List.length_append, lines_done dl k HDL.out]; exact Nat.add_comm 1 k)
      have hmk := HN.out
      subst hmk
      go_wp2_with fail
      go_ret
      have hrd := own_rd HO.out
      rw [HF.out, ← HVAL.out] at hrd
      have hfb := HB0.out.trans (HB.out.mono HB0.out.size)
      first | exact ⟨A, cp, rfl, hrd, hfb⟩ | exact ⟨A, ⟨cp, rfl⟩, hrd, hfb⟩

set_option maxHeartbeats 16000000 in
set_option maxRecDepth 100000 in
theorem rCells_any (cap : Int) (LA : Option Addr) (ln lc : Nat) (ll : List Int) (dA : Option Addr) (dn dc : Nat) (dl : List Resr) (w : World) (h0 : In64 cap) (hll : ll.length = ln) (hln : ln ≤ 1048576) (hli : ∀ x ∈ ll, In64 x) (hlr : Rd w LA (ints ll)) (hdl : dl.length = dn) (hdn : dn ≤ 1048576) (hdi : ∀ x ∈ dl, In64 x.seq ∧ In64 x.value ∧ In64 x.case_) (hdr : Rd w dA (rows dl)) (ht : TabT w) :
    Calls Tryz.prog 20 #[.agg #[.int .i64 cap, .slice LA ln lc, .slice dA dn dc]] w fun e w' => ∃ A c, e = .returned (.slice A (dn + 1) c) ∧ Rd w' A (rows (cellsS cap ll dl)) ∧ Below w.heap.size w w' := by
  have HVAL : RowKit.Hid (cellsS cap ll dl = [⟨#[99, 97, 112, 32]⟩ ++ itoaS cap ++ ⟨#[32, 104, 97, 115]⟩ ++ lsS ⟨#[]⟩ ll] ++ donesS dl) := Lib.hid rfl
  have HX : RowKit.Hid (Blk (w.alloc (.cells #[.int .i64 cap, .slice LA ln lc, .slice dA dn dc] 55)) w.heap.size 55 [.int .i64 cap, .slice LA ln lc, .slice dA dn dc]) := Lib.hid (Blk.new w _ _)
  have HB0 := Lib.hid ((Below.refl w.heap.size w).alloc (Nat.le_refl _) (.cells #[.int .i64 cap, .slice LA ln lc, .slice dA dn dc] 55))
  have HD := Lib.hid (fun W (h : TabT W ∧ Rd W LA (ints ll)) => rdec_any cap W h0)
  have HLS := Lib.hid (fun W (h : TabT W ∧ Rd W LA (ints ll)) => rlist_any LA ln lc ll W hll hln hli h.2)
  have HPZ : RowKit.Hid (TabT (w.alloc (.cells #[.int .i64 cap, .slice LA ln lc, .slice dA dn dc] 55)) ∧ Rd (w.alloc (.cells #[.int .i64 cap, .slice LA ln lc, .slice dA dn dc] 55)) LA (ints ll)) := Lib.hid ⟨ht.below HB0.out, hlr.below HB0.out⟩
  have HDR := Lib.hid (hdr.below HB0.out)
  have HDL := Lib.hid hdl
  have HDI := Lib.hid hdi
  have k0 := itoaS_size h0
  have k1 := lsS_size ll ⟨#[]⟩ hli
  have k2 : (⟨#[]⟩ : ByteArray).size = 0 := rfl
  rw [k2] at k1
  generalize hP : (fun W : World => TabT W ∧ Rd W LA (ints ll)) = P at *
  have hP' : ∀ W : World, (TabT W ∧ Rd W LA (ints ll)) = P W := fun W => by rw [← hP]
  simp only [hP'] at HD HLS HPZ
  have HBL : RowKit.Hid (∀ (w w' : World), P w → Below w.heap.size w w' → P w') := Lib.hid (by rw [← hP]; exact fun w w' h hb => ⟨h.1.below hb, h.2.below hb⟩)
  have HPT : RowKit.Hid (∀ W : World, P W → TabT W) := Lib.hid (by rw [← hP]; exact fun W h => h.1)
  generalize cellsS cap ll dl = T at *
  generalize lsS ⟨#[]⟩ ll = ls at *
  generalize itoaS cap = z at *
  have d0 : ¬ 9223372036854775807 < 4 + z.size := by omega
  have d1 : ¬ 9223372036854775807 < 4 + z.size + 4 := by omega
  have d2 : ¬ 9223372036854775807 < 4 + z.size + 4 + ls.size := by omega
  clear hP hP' h0 hll hln hli hlr hdl hdi hdr ht k0 k1 k2
  go_enter Tryz.func20, Tryz.ntmps20
  go_upto_region 1 with (fail)
  generalize w.alloc (.cells #[.int .i64 cap, .slice LA ln lc, .slice dA dn dc] 55) = W1 at *
  have hwl := HX.out.lt
  have x0 := HX.out.cell (i := 0) rfl
  have x1 := HX.out.cell (i := 1) rfl
  have x2 := HX.out.cell (i := 2) rfl
  have HPW := HPZ
  have HP0 : RowKit.Hid (P W1.drew) := Lib.hid (HBL.out _ _ HPW.out (Below.drewN' (Below.refl _ _) 1))
  go_region_held3 (fun w' => w'.cell? ⟨w.heap.size, 0, none⟩ = some (.int .i64 cap) ∧ w'.cell? ⟨w.heap.size, 1, none⟩ = some (.slice LA ln lc)) (first | go_keep | (simp only [hk0]; go_keep)) (first
    | (go_at_call 37; (with_reducible refine (HD.out W1.drew HP0.out).mono ?_); rintro er v1 ⟨rfl, hb1⟩; have hB1 : Below W1.heap.size W1 v1 := ⟨hb1.os, hb1.tape, hb1.output, hb1.size, hb1.block⟩; have hk0 := fun o => hB1.cell (p := ⟨w.heap.size, o, none⟩) hwl; have HP1 := Lib.hid (HBL.out _ _ HPW.out hB1))
    | (go_at_call 43; (with_reducible refine (HLS.out v1 HP1.out).mono ?_); rintro er v2 ⟨rfl, hb2⟩; have hB2 : Below W1.heap.size W1 v2 := hB1.trans (hb2.mono hB1.size); have hk0 := fun o => hB2.cell (p := ⟨w.heap.size, o, none⟩) hwl; have HP2 := Lib.hid (HBL.out _ _ HPW.out hB2)))
  have HO2 : RowKit.Hid ((v2.alloc (.cells #[.string (⟨#[99, 97, 112, 32]⟩ ++ z ++ ⟨#[32, 104, 97, 115]⟩ ++ ls)] 9)).ownsRow W1.heap.size 9 1 (.slice (some ⟨v2.heap.size, 0, none⟩) 1 1) 1 (rows [⟨#[99, 97, 112, 32]⟩ ++ z ++ ⟨#[32, 104, 97, 115]⟩ ++ ls])) := Lib.hid (own_blk1 (blk_new (cs := rows [⟨#[99, 97, 112, 32]⟩ ++ z ++ ⟨#[32, 104, 97, 115]⟩ ++ ls]) rfl) hB2.size rfl (by unfold maxLen; omega))
  have HB2 := Lib.hid (hB2.alloc hB2.size (.cells #[.string (⟨#[99, 97, 112, 32]⟩ ++ z ++ ⟨#[32, 104, 97, 115]⟩ ++ ls)] 9))
  clear hk0 hb1 hb2 hB1 hB2 HP0 HP1 HP2 x0 x1 x2
  go_upto_region 2 with (fail)
  generalize ⟨#[99, 97, 112, 32]⟩ ++ z ++ ⟨#[32, 104, 97, 115]⟩ ++ ls = Z at *
  generalize v2.alloc (.cells #[.string Z] 9) = W2 at *
  generalize v2.heap.size = g2 at *
  have x2 := (HB2.out.cell (p := ⟨w.heap.size, 2, none⟩) hwl).trans (HX.out.cell (i := 2) rfl)
  have HDN := Lib.hid (fun W (h : Rd W dA (rows dl)) => rdone_any dA dn dc dl W HDL.out hdn HDI.out h)
  go_wp2_with (first
    | (go_at_call 44; refine (HDN.out _ (HDR.out.below HB2.out)).mono ?_; rintro er w3 ⟨A3, c3, rfl, hown3, hb3⟩; have HO3 := Lib.hid hown3; have HB3 := Lib.hid (HB2.out.trans (hb3.mono HB2.out.size)); have HO23 := Lib.hid (own_below HO2.out hb3); clear hown3 hb3)
    | (at_builtin; refine wpList_app rfl (.tmp 14) (.tmp 17) 57 9 rfl W1.heap.size (.string ⟨#[]⟩) 1 16 Tryz.underlying57 str_info rfl (by decide) (some ⟨g2, 0, none⟩) 1 1 (rows [Z]) rfl HO23.out A3 dn c3 (rows (donesS dl)) rfl (fun e => And.intro (own_none HO3.out e).1 (own_none HO3.out e).2.1) (by rw [rows_length, lines_done dl dn HDL.out]; rfl) (own_rd HO3.out) (rows_one _) (dn + 1) (by omega) (rows ([Z] ++ donesS dl)) (by rw [rows_append]) (by unfold maxLen; omega) (by omega) (HB3.out.size) ?_; intro A4 c4 w4 hown4 hg4 hb4; have HO4 := Lib.hid hown4; have HB4 := Lib.hid (HB3.out.trans hb4); clear hown4 hg4 hb4))
  go_ret
  have hrd := own_rd HO4.out
  rw [← HVAL.out] at hrd
  have hfb := HB0.out.trans (HB4.out.mono HB0.out.size)
  first | exact ⟨A4, c4, rfl, hrd, hfb⟩ | exact ⟨A4, ⟨c4, rfl⟩, hrd, hfb⟩

end Go.Proofs.YtalkllfgedacoaaGreatDoor

namespace Go.Proofs.YtalkllfgedacoaaGreatDoor
open Go.RowKit Go.Sort

/-- What the law's calls read of the world. -/
structure LoIn (chans : List Chn) (waits : List Wtr) (dl : List Resr) (ll : List Int) (el : List Resr) (cA wA dA LA eA : Option Addr) (w : World) : Prop where
  h : HIn chans waits w
  c : Rd w cA (rows chans)
  t : Rd w wA (rows waits)
  d : Rd w dA (rows dl)
  l : Rd w LA (ints ll)
  e : Rd w eA (rows el)
  tz : Tz16 w
theorem LoIn.below {chans : List Chn} {waits : List Wtr} {dl : List Resr} {ll : List Int} {el : List Resr} {cA wA dA LA eA : Option Addr} {w w' : World} (h : LoIn chans waits dl ll el cA wA dA LA eA w) (hb : Below w.heap.size w w') : LoIn chans waits dl ll el cA wA dA LA eA w' :=
  ⟨h.h.below hb, h.c.below hb, h.t.below hb, h.d.below hb, h.l.below hb, h.e.below hb, h.tz.below hb⟩

theorem blk_rangeO {w : World} {g : Nat} {t : TypeId} {cs : List Value} (h : Blk w g t cs) : w.rangeAt g 0 cs := fun j v hv => by
  rw [Nat.zero_add]
  exact h.cell hv

set_option maxHeartbeats 64000000 in
set_option maxRecDepth 100000 in
theorem LawVo_any (tck : Int) (cA : Option Addr) (cn cc : Nat) (chans : List Chn) (wA : Option Addr) (wn wc : Nat) (waits : List Wtr) (dA : Option Addr) (dn dc : Nat) (dl : List Resr) (cap : Int) (LA : Option Addr) (ln lc : Nat) (ll : List Int) (eA : Option Addr) (en ec : Nat) (el : List Resr) (w : World) (h0 : In64 tck)
    (hcl : chans.length = cn) (hcn : cn ≤ 1048576) (hci : ∀ x ∈ chans, ChnIn x) (hcr : Rd w cA (rows chans)) (hwl : waits.length = wn) (hwn : wn ≤ 1048576) (hwi : ∀ x ∈ waits, WtrIn x) (hwr : Rd w wA (rows waits))
    (hdl : dl.length = dn) (hdn : dn ≤ 1048576) (hdi : ∀ x ∈ dl, In64 x.seq ∧ In64 x.value ∧ In64 x.case_) (hdr : Rd w dA (rows dl))
    (g0 : In64 cap) (hll : ll.length = ln) (hln : ln ≤ 1048576) (hli : ∀ x ∈ ll, In64 x) (hlr : Rd w LA (ints ll)) (hel : el.length = en) (hen : en ≤ 1048576) (hei : ∀ x ∈ el, In64 x.seq ∧ In64 x.value ∧ In64 x.case_) (her : Rd w eA (rows el)) (hv : HIn chans waits w) (htz : Tz16 w) :
    Calls Tryz.prog 4 #[.agg #[.int .i64 tck, .slice cA cn cc, .slice wA wn wc, .slice dA dn dc], .agg #[.int .i64 cap, .slice LA ln lc, .slice eA en ec]] w fun e w' => e = .returned (.bool true) ∧ Below w.heap.size w w' := by
  have HN1 : RowKit.Hid ((cellsS cap ll el).length = en + 1) := Lib.hid (by rw [cellsS, List.length_append, lines_done el en hel]; exact Nat.add_comm 1 en)
  have H1 := Lib.hid (fun W (h : LoIn chans waits dl ll el cA wA dA LA eA W) => show Calls Tryz.prog 17 #[.agg #[.int .i64 tck, .slice cA cn cc, .slice wA wn wc, .slice dA dn dc]] W (fun e w' => ∃ A c, e = .returned (.slice A (hallS tck chans waits dl).length c) ∧ (hallS tck chans waits dl).length ≤ 4194304 ∧ Rd w' A (rows (hallS tck chans waits dl)) ∧ Below W.heap.size W w') from (vHall_any tck cA cn cc chans wA wn wc waits dA dn dc dl W h0 hcl hcn hci h.c hwl hwn hwi h.t hdl hdn hdi h.d h.h).mono (fun e w' h => by obtain ⟨A, m, c, he, hl, hm, hr, hb⟩ := h; subst hl; exact ⟨A, c, he, hm, hr, hb⟩))
  have H2 := Lib.hid (fun W (h : LoIn chans waits dl ll el cA wA dA LA eA W) => show Calls Tryz.prog 18 #[.agg #[.int .i64 tck, .slice cA cn cc, .slice wA wn wc, .slice dA dn dc]] W (fun e w' => ∃ A c, e = .returned (.slice A (hallS tck chans waits dl).length c) ∧ (hallS tck chans waits dl).length ≤ 4194304 ∧ Rd w' A (rows (hallS tck chans waits dl)) ∧ Below W.heap.size W w') from (rHall_any tck cA cn cc chans wA wn wc waits dA dn dc dl W h0 hcl hcn hci h.c hwl hwn hwi h.t hdl hdn hdi h.d h.h).mono (fun e w' h => by obtain ⟨A, m, c, he, hl, hm, hr, hb⟩ := h; subst hl; exact ⟨A, c, he, hm, hr, hb⟩))
  have H4 := Lib.hid (fun W (h : LoIn chans waits dl ll el cA wA dA LA eA W) => vCells_any cap LA ln lc ll eA en ec el W g0 hll hln hli h.l hel hen hei h.e h.h.tab)
  have H5 := Lib.hid (fun W (h : LoIn chans waits dl ll el cA wA dA LA eA W) => rCells_any cap LA ln lc ll eA en ec el W g0 hll hln hli h.l hel hen hei h.e h.h.tab)
  have H7 := Lib.hid (fun W (h : LoIn chans waits dl ll el cA wA dA LA eA W) => awake25_any W h.h.tab h.tz)
  have HBH := Lib.hid ((Below.refl w.heap.size w).alloc (Nat.le_refl _) (.cells #[.int .i64 tck, .slice cA cn cc, .slice wA wn wc, .slice dA dn dc] 52))
  have HB0 := Lib.hid (HBH.out.alloc HBH.out.size (.cells #[.int .i64 cap, .slice LA ln lc, .slice eA en ec] 55))
  have HXH : RowKit.Hid (Blk ((w.alloc (.cells #[.int .i64 tck, .slice cA cn cc, .slice wA wn wc, .slice dA dn dc] 52)).alloc (.cells #[.int .i64 cap, .slice LA ln lc, .slice eA en ec] 55)) w.heap.size 52 [.int .i64 tck, .slice cA cn cc, .slice wA wn wc, .slice dA dn dc]) := Lib.hid ((Blk.new w _ _).alloc _)
  have HXC : RowKit.Hid (Blk ((w.alloc (.cells #[.int .i64 tck, .slice cA cn cc, .slice wA wn wc, .slice dA dn dc] 52)).alloc (.cells #[.int .i64 cap, .slice LA ln lc, .slice eA en ec] 55)) (w.heap.size + 1) 55 [.int .i64 cap, .slice LA ln lc, .slice eA en ec]) := Lib.hid (blk_new (by simp))
  have HPW : RowKit.Hid (LoIn chans waits dl ll el cA wA dA LA eA ((w.alloc (.cells #[.int .i64 tck, .slice cA cn cc, .slice wA wn wc, .slice dA dn dc] 52)).alloc (.cells #[.int .i64 cap, .slice LA ln lc, .slice eA en ec] 55))) := Lib.hid (LoIn.below ⟨hv, hcr, hwr, hdr, hlr, her, htz⟩ HB0.out)
  clear h0 hcl hcn hci hcr hwl hwn hwi hwr hdl hdn hdi hdr g0 hll hln hli hlr hel hei her hv htz HBH
  generalize hP : LoIn chans waits dl ll el cA wA dA LA eA = P at *
  have HBL : RowKit.Hid (∀ (w w' : World), P w → Below w.heap.size w w' → P w') := Lib.hid (by rw [← hP]; exact fun w w' h hb => LoIn.below h hb)
  clear hP
  generalize hallS tck chans waits dl = T1 at *
  generalize cellsS cap ll el = T2 at *
  generalize hN : T1.length = N at *
  have HN := Lib.hid hN
  clear hN
  go_enter Tryz.func4, Tryz.ntmps4
  go_upto_region 1 with (fail)
  generalize (w.alloc (.cells #[.int .i64 tck, .slice cA cn cc, .slice wA wn wc, .slice dA dn dc] 52)).alloc (.cells #[.int .i64 cap, .slice LA ln lc, .slice eA en ec] 55) = W0 at *
  have hg1 := HXH.out.lt
  have hg2 := HXC.out.lt
  have HU1 := Lib.hid Tryz.underlying52
  have HU2 := Lib.hid Tryz.underlying55
  have HI1 : RowKit.Hid ((Tryz.prog.info? 52).map (·.size) = some ([.int .i64 tck, .slice cA cn cc, .slice wA wn wc, .slice dA dn dc] : List Value).length) := Lib.hid (by kernel_rfl)
  have HI2 : RowKit.Hid ((Tryz.prog.info? 55).map (·.size) = some ([.int .i64 cap, .slice LA ln lc, .slice eA en ec] : List Value).length) := Lib.hid (by kernel_rfl)
  generalize hb0 : w.heap.size = b0 at *
  generalize ([.int .i64 tck, .slice cA cn cc, .slice wA wn wc, .slice dA dn dc] : List Value) = L1 at *
  generalize ([.int .i64 cap, .slice LA ln lc, .slice eA en ec] : List Value) = L2 at *
  have HP0 : RowKit.Hid (P W0.drew) := Lib.hid (HBL.out _ _ HPW.out (Below.drewN' (Below.refl W0.heap.size W0) 1))
  have HBB := Lib.hid HB0.out.size
  have HSB : RowKit.Hid (∀ w', Below W0.heap.size W0 w' → (w'.rangeAt b0 0 L1 ∧ w'.rangeAt (b0 + 1) 0 L2)) := Lib.hid (fun w' hb => ⟨blk_rangeO (HXH.out.below hb hg1), blk_rangeO (HXC.out.below hb hg2)⟩)
  clear hg1 hg2 HXH HXC
  refine wp_region_held_drew (S := fun w' => w'.rangeAt b0 0 L1 ∧ w'.rangeAt (b0 + 1) 0 L2) (by kernel_rfl) (HSB.out _ (Below.drewN' (Below.refl W0.heap.size W0) 1)) (fun hHeld => ?_)
  refine wpAnyH_take (i := 0) (v := .agg L1.toArray) rfl (by kernel_rfl) (by kernel_rfl) (by kernel_rfl) (fun _ _ _ h => h) (yieldsIf_load_mid (by rfl) _ _ rfl _ _ rfl L1 _ (fun _ h => h.1) HU1.out rfl HI1.out) hHeld ?_
  try simp only [Act.put, List.getElem_toArray, List.getElem_cons_zero, List.setIfInBounds_toArray, List.set_cons_zero, List.set_cons_succ]
  refine wpAnyH_take (i := 2) (v := .agg L1.toArray) rfl (by kernel_rfl) (by kernel_rfl) (by kernel_rfl) (fun _ _ _ h => h) (yieldsIf_load_mid (by rfl) _ _ rfl _ _ rfl L1 _ (fun _ h => h.1) HU1.out rfl HI1.out) hHeld ?_
  try simp only [Act.put, List.getElem_toArray, List.getElem_cons_succ, List.getElem_cons_zero, List.setIfInBounds_toArray, List.set_cons_zero, List.set_cons_succ]
  refine wpAnyH_ready (rs := [1]) (by kernel_rfl) (by simp) ?_
  refine AllReadyH.cons rfl (fun K hK => ?_) AllReadyH.nil
  clear hHeld
  rw [if_pos (by rfl)]
  simp only [List.getElem_toArray, List.getElem_cons_succ, List.getElem_cons_zero]
  go_simp
  refine (H1.out W0.drew HP0.out).mono ?_
  rintro er v1 ⟨A1, c1, rfl, hm1, hr1, hb1⟩
  have hB1 : Below W0.heap.size W0 v1 := ⟨hb1.os, hb1.tape, hb1.output, hb1.size, hb1.block⟩
  have HP1 := Lib.hid (HBL.out _ _ HPW.out hB1)
  have HR1 := Lib.hid hr1
  clear hr1
  have HM1 := Lib.hid hm1
  clear hm1
  go_wp2_with fail
  refine hK.out _ _ (HSB.out _ hB1) (fun hHeld => ?_)
  clear hK K
  try simp only [Act.put, List.getElem_toArray, List.getElem_cons_succ, List.getElem_cons_zero, List.setIfInBounds_toArray, List.set_cons_zero, List.set_cons_succ]
  refine wpAnyH_ready (rs := [3]) (by kernel_rfl) (by simp) ?_
  refine AllReadyH.cons rfl (fun K hK => ?_) AllReadyH.nil
  clear hHeld
  rw [if_pos (by rfl)]
  simp only [List.getElem_toArray, List.getElem_cons_succ, List.getElem_cons_zero]
  go_simp
  refine (H2.out v1 HP1.out).mono ?_
  rintro er v2 ⟨A2, c2, rfl, hm2, hr2, hb2⟩
  have hB2 : Below W0.heap.size W0 v2 := hB1.trans (hb2.mono hB1.size)
  have HP2 := Lib.hid (HBL.out _ _ HPW.out hB2)
  have HR1b := Lib.hid (HR1.out.below hb2)
  have HR2 := Lib.hid hr2
  clear hr2
  have HM2 := Lib.hid hm2
  clear hm2
  go_wp2_with fail
  refine hK.out _ _ (HSB.out _ hB2) (fun hHeld => ?_)
  clear hK K
  try simp only [Act.put, List.getElem_toArray, List.getElem_cons_succ, List.getElem_cons_zero, List.setIfInBounds_toArray, List.set_cons_zero, List.set_cons_succ]
  refine wpAnyH_ready (rs := [4]) (by kernel_rfl) (by simp) ?_
  refine AllReadyH.cons rfl (fun K hK => ?_) AllReadyH.nil
  clear hHeld
  rw [if_pos (by rfl)]
  simp only [List.getElem_toArray, List.getElem_cons_succ, List.getElem_cons_zero]
  go_simp
  refine (Texts_same A1 A2 c1 c2 N T1 v2 HN.out (Nat.le_trans HM2.out (by decide)) HR1b.out HR2.out).mono ?_
  rintro er v3 ⟨rfl, hb3⟩
  have hB3 : Below W0.heap.size W0 v3 := hB2.trans (hb3.mono hB2.size)
  have HP3 := Lib.hid (HBL.out _ _ HPW.out hB3)
  go_wp2_with fail
  refine hK.out _ _ (HSB.out _ hB3) (fun hHeld => ?_)
  clear hK K
  try simp only [Act.put, List.getElem_toArray, List.getElem_cons_succ, List.getElem_cons_zero, List.setIfInBounds_toArray, List.set_cons_zero, List.set_cons_succ]
  refine wpAnyH_take (i := 5) (v := .bool true) rfl (by kernel_rfl) (by kernel_rfl) (by kernel_rfl) (fun _ _ _ h => h) (Or.inl ⟨by rfl, fun w hSw => by go_simp⟩) hHeld ?_
  try simp only [Act.put, List.getElem_toArray, List.getElem_cons_succ, List.getElem_cons_zero, List.setIfInBounds_toArray, List.set_cons_zero, List.set_cons_succ]
  refine wpAnyH_take (i := 6) (v := .agg L2.toArray) rfl (by kernel_rfl) (by kernel_rfl) (by kernel_rfl) (fun _ _ _ h => h) (yieldsIf_load_mid (by rfl) _ _ rfl _ _ rfl L2 _ (fun _ h => h.2) HU2.out rfl HI2.out) hHeld ?_
  try simp only [Act.put, List.getElem_toArray, List.getElem_cons_succ, List.getElem_cons_zero, List.setIfInBounds_toArray, List.set_cons_zero, List.set_cons_succ]
  refine wpAnyH_take (i := 8) (v := .agg L2.toArray) rfl (by kernel_rfl) (by kernel_rfl) (by kernel_rfl) (fun _ _ _ h => h) (yieldsIf_load_mid (by rfl) _ _ rfl _ _ rfl L2 _ (fun _ h => h.2) HU2.out rfl HI2.out) hHeld ?_
  try simp only [Act.put, List.getElem_toArray, List.getElem_cons_succ, List.getElem_cons_zero, List.setIfInBounds_toArray, List.set_cons_zero, List.set_cons_succ]
  refine wpAnyH_ready (rs := [7]) (by kernel_rfl) (by simp) ?_
  refine AllReadyH.cons rfl (fun K hK => ?_) AllReadyH.nil
  clear hHeld
  rw [if_pos (by rfl)]
  simp only [List.getElem_toArray, List.getElem_cons_succ, List.getElem_cons_zero]
  go_simp
  refine (H4.out v3 HP3.out).mono ?_
  rintro er v4 ⟨A4, c4, rfl, hr4, hb4⟩
  have hB4 : Below W0.heap.size W0 v4 := hB3.trans (hb4.mono hB3.size)
  have HP4 := Lib.hid (HBL.out _ _ HPW.out hB4)
  have HR4 := Lib.hid hr4
  clear hr4
  go_wp2_with fail
  refine hK.out _ _ (HSB.out _ hB4) (fun hHeld => ?_)
  clear hK K
  try simp only [Act.put, List.getElem_toArray, List.getElem_cons_succ, List.getElem_cons_zero, List.setIfInBounds_toArray, List.set_cons_zero, List.set_cons_succ]
  refine wpAnyH_ready (rs := [9]) (by kernel_rfl) (by simp) ?_
  refine AllReadyH.cons rfl (fun K hK => ?_) AllReadyH.nil
  clear hHeld
  rw [if_pos (by rfl)]
  simp only [List.getElem_toArray, List.getElem_cons_succ, List.getElem_cons_zero]
  go_simp
  refine (H5.out v4 HP4.out).mono ?_
  rintro er v5 ⟨A5, c5, rfl, hr5, hb5⟩
  have hB5 : Below W0.heap.size W0 v5 := hB4.trans (hb5.mono hB4.size)
  have HP5 := Lib.hid (HBL.out _ _ HPW.out hB5)
  have HR4b := Lib.hid (HR4.out.below hb5)
  have HR5 := Lib.hid hr5
  clear hr5
  go_wp2_with fail
  refine hK.out _ _ (HSB.out _ hB5) (fun hHeld => ?_)
  clear hK K
  try simp only [Act.put, List.getElem_toArray, List.getElem_cons_succ, List.getElem_cons_zero, List.setIfInBounds_toArray, List.set_cons_zero, List.set_cons_succ]
  refine wpAnyH_ready (rs := [10]) (by kernel_rfl) (by simp) ?_
  refine AllReadyH.cons rfl (fun K hK => ?_) AllReadyH.nil
  clear hHeld
  rw [if_pos (by rfl)]
  simp only [List.getElem_toArray, List.getElem_cons_succ, List.getElem_cons_zero]
  go_simp
  refine (Texts_same A4 A5 c4 c5 (en + 1) T2 v5 HN1.out (Nat.le_trans (Nat.succ_le_succ hen) (by decide)) HR4b.out HR5.out).mono ?_
  rintro er v6 ⟨rfl, hb6⟩
  have hB6 : Below W0.heap.size W0 v6 := hB5.trans (hb6.mono hB5.size)
  have HP6 := Lib.hid (HBL.out _ _ HPW.out hB6)
  go_wp2_with fail
  refine hK.out _ _ (HSB.out _ hB6) (fun hHeld => ?_)
  clear hK K
  try simp only [Act.put, List.getElem_toArray, List.getElem_cons_succ, List.getElem_cons_zero, List.setIfInBounds_toArray, List.set_cons_zero, List.set_cons_succ]
  refine wpAnyH_take (i := 11) (v := .bool true) rfl (by kernel_rfl) (by kernel_rfl) (by kernel_rfl) (fun _ _ _ h => h) (Or.inl ⟨by rfl, fun w hSw => by go_simp⟩) hHeld ?_
  try simp only [Act.put, List.getElem_toArray, List.getElem_cons_succ, List.getElem_cons_zero, List.setIfInBounds_toArray, List.set_cons_zero, List.set_cons_succ]
  refine wpAnyH_take (i := 12) (v := .bool true) rfl (by kernel_rfl) (by kernel_rfl) (by kernel_rfl) (fun _ _ _ h => h) (Or.inl ⟨by rfl, fun w hSw => by go_simp⟩) hHeld ?_
  try simp only [Act.put, List.getElem_toArray, List.getElem_cons_succ, List.getElem_cons_zero, List.setIfInBounds_toArray, List.set_cons_zero, List.set_cons_succ]
  refine wpAnyH_ready (rs := [13]) (by kernel_rfl) (by simp) ?_
  refine AllReadyH.cons rfl (fun K hK => ?_) AllReadyH.nil
  clear hHeld
  rw [if_pos (by rfl)]
  simp only [List.getElem_toArray, List.getElem_cons_succ, List.getElem_cons_zero]
  go_simp
  refine (H7.out v6 HP6.out).mono ?_
  rintro er v7 ⟨rfl, hb7⟩
  have hB7 : Below W0.heap.size W0 v7 := hB6.trans (hb7.mono hB6.size)
  have HP7 := Lib.hid (HBL.out _ _ HPW.out hB7)
  go_wp2_with fail
  refine hK.out _ _ (HSB.out _ hB7) (fun hHeld => ?_)
  clear hK K
  try simp only [Act.put, List.getElem_toArray, List.getElem_cons_succ, List.getElem_cons_zero, List.setIfInBounds_toArray, List.set_cons_zero, List.set_cons_succ]
  refine wpAnyH_take (i := 14) (v := .bool true) rfl (by kernel_rfl) (by kernel_rfl) (by kernel_rfl) (fun _ _ _ h => h) (Or.inl ⟨by rfl, fun w hSw => by go_simp⟩) hHeld ?_
  try simp only [Act.put, List.getElem_toArray, List.getElem_cons_succ, List.getElem_cons_zero, List.setIfInBounds_toArray, List.set_cons_zero, List.set_cons_succ]
  refine wpAnyH_take (i := 15) (v := .bool true) rfl (by kernel_rfl) (by kernel_rfl) (by kernel_rfl) (fun _ _ _ h => h) (Or.inl ⟨by rfl, fun w hSw => by go_simp⟩) hHeld ?_
  try simp only [Act.put, List.getElem_toArray, List.getElem_cons_succ, List.getElem_cons_zero, List.setIfInBounds_toArray, List.set_cons_zero, List.set_cons_succ]
  clear hHeld
  refine wpAnyH_done (by kernel_rfl) ?_ _
  go_wp2
  go_ret
  exact ⟨rfl, by rw [hb0]; exact HB0.out.trans (hB7.mono (by rw [← hb0]; exact HBB.out))⟩

end Go.Proofs.YtalkllfgedacoaaGreatDoor
