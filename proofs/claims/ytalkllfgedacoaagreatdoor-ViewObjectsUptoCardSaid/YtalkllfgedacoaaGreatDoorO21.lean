/- How the words of a thing lie: first, Nodes, Node, Total, the program's and the document's, as plain numbers. -/
import Derived.Test.YtalkllfgedacoaaGreatDoorO6
import Derived.Test.YtalkllfgedacoaaGreatDoorO3
import Derived.IntWalk
namespace Go.Proofs.YtalkllfgedacoaaGreatDoor
open Go.RowKit Go.Sort

set_option maxHeartbeats 16000000 in
set_option maxRecDepth 100000 in
theorem vTurn_any (k : TurR) (l : List Opr) (w : World) (h1 : In64 k.tm) (h2 : In64 k.th) (hl : l.length = k.n) (hn : k.n ≤ 1048576) (ho : ∀ o ∈ l, In64 o.th ∧ In64 o.sq) (hr : Rd w k.A (rows l)) (ht : TabT w) :
    Calls Tryz.prog 13 #[turnV k] w fun e w' => e = .returned (.string (turnS k l)) ∧ Below w.heap.size w w' := by
  obtain ⟨tm, th, OA, on, oc⟩ := k
  simp only at h1 h2 hl hn hr
  have HX : RowKit.Hid (Blk (w.alloc (.cells #[.int .i64 tm, .int .i64 th, .slice OA on oc] 42)) w.heap.size 42 [.int .i64 tm, .int .i64 th, .slice OA on oc]) := Lib.hid (Blk.new w _ _)
  have HB0 := Lib.hid ((Below.refl w.heap.size w).alloc (Nat.le_refl _) (.cells #[.int .i64 tm, .int .i64 th, .slice OA on oc] 42))
  have HPW := Lib.hid (ht.below HB0.out)
  have HRW := Lib.hid (hr.below HB0.out)
  have HLEN := Lib.hid hl
  have HO := Lib.hid ho
  have HD0 := Lib.hid (fun W (h : TabT W) => dec_any tm W h1 h)
  have HD1 := Lib.hid (fun W (h : TabT W) => dec_any th W h2 h)
  have k0 := itoaS_size h1
  have k1 := itoaS_size h2
  have HVAL : RowKit.Hid (turnS ⟨tm, th, OA, on, oc⟩ l = opsS (itoaS tm ++ ⟨#[32, 116, 104, 114, 101, 97, 100, 32]⟩ ++ itoaS th ++ ⟨#[32, 100, 111, 101, 115]⟩) l) := Lib.hid rfl
  have HSZ : RowKit.Hid (∀ k, k ≤ on → (opsS (itoaS tm ++ ⟨#[32, 116, 104, 114, 101, 97, 100, 32]⟩ ++ itoaS th ++ ⟨#[32, 100, 111, 101, 115]⟩) (l.take k)).size ≤ 50000000) := Lib.hid (fun k hk => by
    have h := opsS_size (l.take k) (itoaS tm ++ ⟨#[32, 116, 104, 114, 101, 97, 100, 32]⟩ ++ itoaS th ++ ⟨#[32, 100, 111, 101, 115]⟩) (fun o ho' => ho o (List.mem_of_mem_take ho'))
    have e1 : (⟨#[32, 116, 104, 114, 101, 97, 100, 32]⟩ : ByteArray).size = 8 := rfl
    have e2 : (⟨#[32, 100, 111, 101, 115]⟩ : ByteArray).size = 5 := rfl
    rw [ByteArray.size_append, ByteArray.size_append, ByteArray.size_append, e1, e2, List.length_take] at h
    omega)
  generalize turnS ⟨tm, th, OA, on, oc⟩ l = T at *
  generalize itoaS tm = z0 at *
  generalize itoaS th = z1 at *
  have d0 : ¬ 9223372036854775807 < z0.size + 8 := by omega
  have d1 : ¬ 9223372036854775807 < z0.size + 8 + z1.size := by omega
  have d2 : ¬ 9223372036854775807 < z0.size + 8 + z1.size + 5 := by omega
  clear h1 h2 hl hr ho ht k0 k1
  go_enter Tryz.func13, Tryz.ntmps13
  go_upto_region 1 with (fail)
  generalize w.alloc (.cells #[.int .i64 tm, .int .i64 th, .slice OA on oc] 42) = W0 at *
  have hwl := HX.out.lt
  have HP0 : RowKit.Hid (TabT W0.drew) := Lib.hid (HPW.out.below (Below.drewN' (Below.refl _ _) 1))
  have x0 := HX.out.cell (i := 0) rfl
  have x1 := HX.out.cell (i := 1) rfl
  have x2 := HX.out.cell (i := 2) rfl
  go_region_held3 (fun w' => w'.cell? ⟨w.heap.size, 0, none⟩ = some (.int .i64 tm) ∧ w'.cell? ⟨w.heap.size, 1, none⟩ = some (.int .i64 th)) (first | go_keep | (simp only [hk0]; go_keep)) (first
    | (go_at_call 35; (with_reducible refine (HD0.out W0.drew HP0.out).mono ?_); rintro er v1 ⟨rfl, hb1⟩; have hB1 : Below W0.heap.size W0 v1 := ⟨hb1.os, hb1.tape, hb1.output, hb1.size, hb1.block⟩; have hk0 := fun o => hB1.cell (p := ⟨w.heap.size, o, none⟩) hwl; have HP1 := Lib.hid (HPW.out.below hB1))
    | (go_at_call 35; (with_reducible refine (HD1.out v1 HP1.out).mono ?_); rintro er v2 ⟨rfl, hb2⟩; have hB2 : Below W0.heap.size W0 v2 := hB1.trans (hb2.mono hB1.size); have hk0 := fun o => hB2.cell (p := ⟨w.heap.size, o, none⟩) hwl; have HP2 := Lib.hid (HPW.out.below hB2)))
  have HB2 := Lib.hid (HB0.out.trans (hB2.mono HB0.out.size))
  have x2 := (hB2.cell (p := ⟨w.heap.size, 2, none⟩) hwl).trans x2
  have HR2 := Lib.hid (HRW.out.below hB2)
  have HT2 := HP2
  clear hb1 hb2 hB1 hB2 hk0 HP0 HP1 HP2 HPW HX HB0 HRW x0 x1
  generalize hS0 : z0 ++ ⟨#[32, 116, 104, 114, 101, 97, 100, 32]⟩ ++ z1 ++ ⟨#[32, 100, 111, 101, 115]⟩ = S0 at *
  clear hS0
  generalize v2 = W2 at *
  go_wp2_with fail
  go_loopg [18, 3] on (fun gg i s wr => ∃ k : Nat, k ≤ on ∧ gg = on - k ∧ i = .int .i64 k ∧ s = .string (opsS S0 (l.take k)) ∧ Below W2.heap.size W2 wr)
  case atStart => exact ⟨0, Nat.zero_le _, rfl, rfl, rfl, Below.refl _ _⟩
  case round =>
    obtain ⟨k, hk, hg, rfl, rfl, hb⟩ := hrel
    have HG := Lib.hid hg
    have HB := Lib.hid hb
    clear hg hb
    by_cases hlt : k < on
    · have q1 : (k : Int) < (on : Int) := by omega
      have hkl : k < l.length := by rw [HLEN.out]; exact hlt
      have hrd := HR2.out.below HB.out
      obtain ⟨b2, o2, hA, hbl, hcl⟩ := hrd.at_ (by rw [rows_length]; exact Nat.mul_pos (by omega) (by decide))
      subst hA
      obtain ⟨y0, y1, y2, y3, y4, y5, y6, y7⟩ := opr_cells hcl hkl rfl
      have HIN := Lib.hid (HO.out (l.getD k Opr.none) (by rw [List.getD, List.getElem?_eq_getElem hkl]; exact List.getElem_mem hkl))
      have hS0 := HSZ.out k hk
      have HTK : RowKit.Hid (opsS S0 (l.take (k + 1)) = opsS S0 (l.take k) ++ opS (l.getD k Opr.none)) := Lib.hid (by
        rw [List.take_succ_eq_append_getElem hkl, opsS_snoc]
        congr 2
        rw [List.getD, List.getElem?_eq_getElem hkl]
        rfl)
      clear hcl hrd hkl
      generalize l.getD k Opr.none = x at *
      generalize opsS S0 (l.take k) = S at *
      obtain ⟨ot, os, op, ⟨ok, oa, ov, od, oA, ol, oC⟩⟩ := x
      simp only at y0 y1 y2 y3 y4 y5 y6 y7 HIN
      have HE1 := Lib.hid (fun W (h : TabT W) => dec_any ot W HIN.out.1 h)
      have HE2 := Lib.hid (fun W (h : TabT W) => dec_any os W HIN.out.2 h)
      have hz1 := itoaS_size HIN.out.1
      have hz2 := itoaS_size HIN.out.2
      unfold opS at HTK
      simp only at HTK
      generalize itoaS ot = z3 at *
      generalize itoaS os = z4 at *
      have g0 : ¬ 9223372036854775807 < 1 + z3.size := by omega
      have g1 : ¬ 9223372036854775807 < 1 + z3.size + 1 := by omega
      have g2 : ¬ 9223372036854775807 < 1 + z3.size + 1 + z4.size := by omega
      have g3 : ¬ 9223372036854775807 < S.size + (1 + z3.size + 1 + z4.size) := by omega
      clear hS0 hz1 hz2
      have HTW := Lib.hid (HT2.out.below HB.out)
      go_upto_region 5 with (fail)
      have hbx : Blk (wr.alloc (.cells #[.int .i64 ot, .int .i64 os, .int .i64 op, .int .i64 ok, .int .i64 oa, .int .i64 ov, .bool od, .slice oA ol oC] 86)) wr.heap.size 86 [.int .i64 ot, .int .i64 os, .int .i64 op, .int .i64 ok, .int .i64 oa, .int .i64 ov, .bool od, .slice oA ol oC] := Blk.new wr _ _
      have HBA := Lib.hid (HB.out.alloc HB.out.size (.cells #[.int .i64 ot, .int .i64 os, .int .i64 op, .int .i64 ok, .int .i64 oa, .int .i64 ov, .bool od, .slice oA ol oC] 86))
      have HPW := Lib.hid (HTW.out.below ((Below.refl wr.heap.size wr).alloc (Nat.le_refl _) (.cells #[.int .i64 ot, .int .i64 os, .int .i64 op, .int .i64 ok, .int .i64 oa, .int .i64 ov, .bool od, .slice oA ol oC] 86)))
      generalize wr.alloc (.cells #[.int .i64 ot, .int .i64 os, .int .i64 op, .int .i64 ok, .int .i64 oa, .int .i64 ov, .bool od, .slice oA ol oC] 86) = WA at *
      generalize wr.heap.size = br at *
      have y8 := hbx.cell (i := 0) rfl
      have y9 := hbx.cell (i := 1) rfl
      have hgl := hbx.lt
      have HBX := Lib.hid hbx
      clear hbx
      have HP0 : RowKit.Hid (TabT WA.drew) := Lib.hid (HPW.out.below (Below.drewN' (Below.refl _ _) 1))
      go_region_held3 (fun w' => w'.cell? ⟨br, 0, none⟩ = some (.int .i64 ot) ∧ w'.cell? ⟨br, 1, none⟩ = some (.int .i64 os)) (first | go_keep | (simp only [hk0]; go_keep)) (first
        | (go_at_call 35; (with_reducible refine (HE1.out WA.drew HP0.out).mono ?_); rintro er v1 ⟨rfl, hb1⟩; have hB1 : Below WA.heap.size WA v1 := ⟨hb1.os, hb1.tape, hb1.output, hb1.size, hb1.block⟩; have hk0 := fun o => hB1.cell (p := ⟨br, o, none⟩) hgl; have HP1 := Lib.hid (HPW.out.below hB1))
        | (go_at_call 35; (with_reducible refine (HE2.out v1 HP1.out).mono ?_); rintro er v2 ⟨rfl, hb2⟩; have hB2 : Below WA.heap.size WA v2 := hB1.trans (hb2.mono hB1.size); have hk0 := fun o => hB2.cell (p := ⟨br, o, none⟩) hgl; have HP2 := Lib.hid (HPW.out.below hB2)))
      have HB3 := Lib.hid (HBA.out.trans (hB2.mono HBA.out.size))
      go_wp2_with fail
      go_roundg (on - (k + 1))
      case measure => rw [HG.out]; omega
      case rel => exact ⟨k + 1, by omega, rfl, by go_num, by rw [HTK.out], HB3.out⟩
    · obtain rfl : k = on := by omega
      have q1 : ¬ (k : Int) < (k : Int) := by omega
      have HF : RowKit.Hid (T = opsS S0 (l.take k)) := Lib.hid (by rw [HVAL.out, List.take_of_length_le (by rw [HLEN.out]; exact Nat.le_refl _)])
      go_wp2_with fail
      go_ret
      exact ⟨by rw [HF.out]; rfl, HB2.out.trans (HB.out.mono HB2.out.size)⟩

set_option maxHeartbeats 16000000 in
set_option maxRecDepth 100000 in
theorem rTurn_any (k : TurR) (l : List Opr) (w : World) (h1 : In64 k.tm) (h2 : In64 k.th) (hl : l.length = k.n) (hn : k.n ≤ 1048576) (ho : ∀ o ∈ l, In64 o.th ∧ In64 o.sq) (hr : Rd w k.A (rows l)) (ht : TabT w) :
    Calls Tryz.prog 14 #[turnV k] w fun e w' => e = .returned (.string (turnS k l)) ∧ Below w.heap.size w w' := by
  obtain ⟨tm, th, OA, on, oc⟩ := k
  simp only at h1 h2 hl hn hr
  have HX : RowKit.Hid (Blk (w.alloc (.cells #[.int .i64 tm, .int .i64 th, .slice OA on oc] 42)) w.heap.size 42 [.int .i64 tm, .int .i64 th, .slice OA on oc]) := Lib.hid (Blk.new w _ _)
  have HB0 := Lib.hid ((Below.refl w.heap.size w).alloc (Nat.le_refl _) (.cells #[.int .i64 tm, .int .i64 th, .slice OA on oc] 42))
  have HPW := Lib.hid (ht.below HB0.out)
  have HRW := Lib.hid (hr.below HB0.out)
  have HLEN := Lib.hid hl
  have HO := Lib.hid ho
  have HD0 := Lib.hid (fun W (h : TabT W) => rdec_any tm W h1)
  have HD1 := Lib.hid (fun W (h : TabT W) => rdec_any th W h2)
  have k0 := itoaS_size h1
  have k1 := itoaS_size h2
  have HVAL : RowKit.Hid (turnS ⟨tm, th, OA, on, oc⟩ l = opsS (itoaS tm ++ ⟨#[32, 116, 104, 114, 101, 97, 100, 32]⟩ ++ itoaS th ++ ⟨#[32, 100, 111, 101, 115]⟩) l) := Lib.hid rfl
  have HSZ : RowKit.Hid (∀ k, k ≤ on → (opsS (itoaS tm ++ ⟨#[32, 116, 104, 114, 101, 97, 100, 32]⟩ ++ itoaS th ++ ⟨#[32, 100, 111, 101, 115]⟩) (l.take k)).size ≤ 50000000) := Lib.hid (fun k hk => by
    have h := opsS_size (l.take k) (itoaS tm ++ ⟨#[32, 116, 104, 114, 101, 97, 100, 32]⟩ ++ itoaS th ++ ⟨#[32, 100, 111, 101, 115]⟩) (fun o ho' => ho o (List.mem_of_mem_take ho'))
    have e1 : (⟨#[32, 116, 104, 114, 101, 97, 100, 32]⟩ : ByteArray).size = 8 := rfl
    have e2 : (⟨#[32, 100, 111, 101, 115]⟩ : ByteArray).size = 5 := rfl
    rw [ByteArray.size_append, ByteArray.size_append, ByteArray.size_append, e1, e2, List.length_take] at h
    omega)
  generalize turnS ⟨tm, th, OA, on, oc⟩ l = T at *
  generalize itoaS tm = z0 at *
  generalize itoaS th = z1 at *
  have d0 : ¬ 9223372036854775807 < z0.size + 8 := by omega
  have d1 : ¬ 9223372036854775807 < z0.size + 8 + z1.size := by omega
  have d2 : ¬ 9223372036854775807 < z0.size + 8 + z1.size + 5 := by omega
  clear h1 h2 hl hr ho ht k0 k1
  go_enter Tryz.func14, Tryz.ntmps14
  go_upto_region 1 with (fail)
  generalize w.alloc (.cells #[.int .i64 tm, .int .i64 th, .slice OA on oc] 42) = W0 at *
  have hwl := HX.out.lt
  have HP0 : RowKit.Hid (TabT W0.drew) := Lib.hid (HPW.out.below (Below.drewN' (Below.refl _ _) 1))
  have x0 := HX.out.cell (i := 0) rfl
  have x1 := HX.out.cell (i := 1) rfl
  have x2 := HX.out.cell (i := 2) rfl
  go_region_held3 (fun w' => w'.cell? ⟨w.heap.size, 0, none⟩ = some (.int .i64 tm) ∧ w'.cell? ⟨w.heap.size, 1, none⟩ = some (.int .i64 th)) (first | go_keep | (simp only [hk0]; go_keep)) (first
    | (go_at_call 37; (with_reducible refine (HD0.out W0.drew HP0.out).mono ?_); rintro er v1 ⟨rfl, hb1⟩; have hB1 : Below W0.heap.size W0 v1 := ⟨hb1.os, hb1.tape, hb1.output, hb1.size, hb1.block⟩; have hk0 := fun o => hB1.cell (p := ⟨w.heap.size, o, none⟩) hwl; have HP1 := Lib.hid (HPW.out.below hB1))
    | (go_at_call 37; (with_reducible refine (HD1.out v1 HP1.out).mono ?_); rintro er v2 ⟨rfl, hb2⟩; have hB2 : Below W0.heap.size W0 v2 := hB1.trans (hb2.mono hB1.size); have hk0 := fun o => hB2.cell (p := ⟨w.heap.size, o, none⟩) hwl; have HP2 := Lib.hid (HPW.out.below hB2)))
  have HB2 := Lib.hid (HB0.out.trans (hB2.mono HB0.out.size))
  have x2 := (hB2.cell (p := ⟨w.heap.size, 2, none⟩) hwl).trans x2
  have HR2 := Lib.hid (HRW.out.below hB2)
  have HT2 := HP2
  clear hb1 hb2 hB1 hB2 hk0 HP0 HP1 HP2 HPW HX HB0 HRW x0 x1
  generalize hS0 : z0 ++ ⟨#[32, 116, 104, 114, 101, 97, 100, 32]⟩ ++ z1 ++ ⟨#[32, 100, 111, 101, 115]⟩ = S0 at *
  clear hS0
  generalize v2 = W2 at *
  go_wp2_with fail
  go_loopg [18, 3] on (fun gg i s wr => ∃ k : Nat, k ≤ on ∧ gg = on - k ∧ i = .int .i64 k ∧ s = .string (opsS S0 (l.take k)) ∧ Below W2.heap.size W2 wr)
  case atStart => exact ⟨0, Nat.zero_le _, rfl, rfl, rfl, Below.refl _ _⟩
  case round =>
    obtain ⟨k, hk, hg, rfl, rfl, hb⟩ := hrel
    have HG := Lib.hid hg
    have HB := Lib.hid hb
    clear hg hb
    by_cases hlt : k < on
    · have q1 : (k : Int) < (on : Int) := by omega
      have hkl : k < l.length := by rw [HLEN.out]; exact hlt
      have hrd := HR2.out.below HB.out
      obtain ⟨b2, o2, hA, hbl, hcl⟩ := hrd.at_ (by rw [rows_length]; exact Nat.mul_pos (by omega) (by decide))
      subst hA
      obtain ⟨y0, y1, y2, y3, y4, y5, y6, y7⟩ := opr_cells hcl hkl rfl
      have HIN := Lib.hid (HO.out (l.getD k Opr.none) (by rw [List.getD, List.getElem?_eq_getElem hkl]; exact List.getElem_mem hkl))
      have hS0 := HSZ.out k hk
      have HTK : RowKit.Hid (opsS S0 (l.take (k + 1)) = opsS S0 (l.take k) ++ opS (l.getD k Opr.none)) := Lib.hid (by
        rw [List.take_succ_eq_append_getElem hkl, opsS_snoc]
        congr 2
        rw [List.getD, List.getElem?_eq_getElem hkl]
        rfl)
      clear hcl hrd hkl
      generalize l.getD k Opr.none = x at *
      generalize opsS S0 (l.take k) = S at *
      obtain ⟨ot, os, op, ⟨ok, oa, ov, od, oA, ol, oC⟩⟩ := x
      simp only at y0 y1 y2 y3 y4 y5 y6 y7 HIN
      have HE1 := Lib.hid (fun W (h : TabT W) => rdec_any ot W HIN.out.1)
      have HE2 := Lib.hid (fun W (h : TabT W) => rdec_any os W HIN.out.2)
      have hz1 := itoaS_size HIN.out.1
      have hz2 := itoaS_size HIN.out.2
      unfold opS at HTK
      simp only at HTK
      generalize itoaS ot = z3 at *
      generalize itoaS os = z4 at *
      have g0 : ¬ 9223372036854775807 < S.size + 1 := by omega
      have g1 : ¬ 9223372036854775807 < S.size + 1 + z3.size := by omega
      have g2 : ¬ 9223372036854775807 < S.size + 1 + z3.size + 1 := by omega
      have g3 : ¬ 9223372036854775807 < S.size + 1 + z3.size + 1 + z4.size := by omega
      clear hS0 hz1 hz2
      have HTW := Lib.hid (HT2.out.below HB.out)
      go_upto_region 5 with (fail)
      have hbx : Blk (wr.alloc (.cells #[.int .i64 ot, .int .i64 os, .int .i64 op, .int .i64 ok, .int .i64 oa, .int .i64 ov, .bool od, .slice oA ol oC] 86)) wr.heap.size 86 [.int .i64 ot, .int .i64 os, .int .i64 op, .int .i64 ok, .int .i64 oa, .int .i64 ov, .bool od, .slice oA ol oC] := Blk.new wr _ _
      have HBA := Lib.hid (HB.out.alloc HB.out.size (.cells #[.int .i64 ot, .int .i64 os, .int .i64 op, .int .i64 ok, .int .i64 oa, .int .i64 ov, .bool od, .slice oA ol oC] 86))
      have HPW := Lib.hid (HTW.out.below ((Below.refl wr.heap.size wr).alloc (Nat.le_refl _) (.cells #[.int .i64 ot, .int .i64 os, .int .i64 op, .int .i64 ok, .int .i64 oa, .int .i64 ov, .bool od, .slice oA ol oC] 86)))
      generalize wr.alloc (.cells #[.int .i64 ot, .int .i64 os, .int .i64 op, .int .i64 ok, .int .i64 oa, .int .i64 ov, .bool od, .slice oA ol oC] 86) = WA at *
      generalize wr.heap.size = br at *
      have y8 := hbx.cell (i := 0) rfl
      have y9 := hbx.cell (i := 1) rfl
      have hgl := hbx.lt
      have HBX := Lib.hid hbx
      clear hbx
      have HP0 : RowKit.Hid (TabT WA.drew) := Lib.hid (HPW.out.below (Below.drewN' (Below.refl _ _) 1))
      go_region_held3 (fun w' => w'.cell? ⟨br, 0, none⟩ = some (.int .i64 ot) ∧ w'.cell? ⟨br, 1, none⟩ = some (.int .i64 os)) (first | go_keep | (simp only [hk0]; go_keep)) (first
        | (go_at_call 37; (with_reducible refine (HE1.out WA.drew HP0.out).mono ?_); rintro er v1 ⟨rfl, hb1⟩; have hB1 : Below WA.heap.size WA v1 := ⟨hb1.os, hb1.tape, hb1.output, hb1.size, hb1.block⟩; have hk0 := fun o => hB1.cell (p := ⟨br, o, none⟩) hgl; have HP1 := Lib.hid (HPW.out.below hB1))
        | (go_at_call 37; (with_reducible refine (HE2.out v1 HP1.out).mono ?_); rintro er v2 ⟨rfl, hb2⟩; have hB2 : Below WA.heap.size WA v2 := hB1.trans (hb2.mono hB1.size); have hk0 := fun o => hB2.cell (p := ⟨br, o, none⟩) hgl; have HP2 := Lib.hid (HPW.out.below hB2)))
      have HB3 := Lib.hid (HBA.out.trans (hB2.mono HBA.out.size))
      go_wp2_with fail
      go_roundg (on - (k + 1))
      case measure => rw [HG.out]; omega
      case rel => exact ⟨k + 1, by omega, rfl, by go_num, by rw [HTK.out]; simp only [ByteArray.append_assoc], HB3.out⟩
    · obtain rfl : k = on := by omega
      have q1 : ¬ (k : Int) < (k : Int) := by omega
      have HF : RowKit.Hid (T = opsS S0 (l.take k)) := Lib.hid (by rw [HVAL.out, List.take_of_length_le (by rw [HLEN.out]; exact Nat.le_refl _)])
      go_wp2_with fail
      go_ret
      exact ⟨by rw [HF.out]; rfl, HB2.out.trans (HB.out.mono HB2.out.size)⟩

end Go.Proofs.YtalkllfgedacoaaGreatDoor

namespace Go.Proofs.YtalkllfgedacoaaGreatDoor
open Go.RowKit Go.Sort

def nameWS (u : Nat) : ByteArray := if u = 0 then ⟨#[110, 111, 110, 101]⟩ else if rdOk u = true then refS (rdOf u) else ⟨#[98, 97, 100, 32]⟩ ++ hexS u

theorem rd_in (u : Nat) (hu : u < 18446744073709551616) : In64 (rdOf u).index ∧ In64 (rdOf u).tag := by
  unfold rdOf In64
  split
  · simp only; omega
  · simp only; omega
theorem nameWS_size (u : Nat) (hu : u < 18446744073709551616) : (nameWS u).size ≤ 60 := by
  have h1 := hexS_size u hu
  have h2 := refS_size (rd_in u hu).1 (rd_in u hu).2
  have e1 : (⟨#[98, 97, 100, 32]⟩ : ByteArray).size = 4 := rfl
  unfold nameWS
  split
  · decide
  · split
    · omega
    · rw [ByteArray.size_append, e1]; omega

set_option maxHeartbeats 4000000 in
set_option maxRecDepth 100000 in
theorem name_any' (u : Nat) (w : World) (hu : u < 18446744073709551616) (ht : TabT w) (hz : Tz16 w) :
    Calls Tryz.prog 75 #[.int .u64 u] w fun e w' => e = .returned (.string (nameWS u)) ∧ Below w.heap.size w w' := by
  have HR := Lib.hid (Read_any u hu w)
  have HIN := Lib.hid (rd_in u hu)
  have HRF := Lib.hid (fun W h => vRef_any (rdOf u) W (rd_in u hu).1 (rd_in u hu).2 h)
  have HHX := Lib.hid (fun W h => vhx_any u W hu h)
  have hs := hexS_size u hu
  have HT := Lib.hid ht
  have HZ := Lib.hid hz
  have HNV : RowKit.Hid (nameWS u = if u = 0 then ⟨#[110, 111, 110, 101]⟩ else if rdOk u = true then refS (rdOf u) else ⟨#[98, 97, 100, 32]⟩ ++ hexS u) := Lib.hid rfl
  have HO : RowKit.Hid (rdOf u = if rdOk u = true then ⟨(u % 65536 : Int) - 1, u / 65536⟩ else ⟨0, 0⟩) := Lib.hid rfl
  have h0k : u = 0 → rdOk u = false := fun h => by subst h; decide
  have HZK := Lib.hid h0k
  clear ht hz h0k
  by_cases h0 : u = 0
  case' pos =>
    have b0 : ((u : Int) != 0) = false := by simp [h0]
    have hk := HZK.out h0
    rw [hk] at HR
    have HV := Lib.hid (show refS (rdOf u) = nameWS u by rw [HNV.out, if_pos h0, HO.out, hk]; rfl)
  case' neg =>
    have b0 : ((u : Int) != 0) = true := by simp [h0]
    cases hk : rdOk u
    case' false =>
      have HV := Lib.hid (show nameWS u = ⟨#[98, 97, 100, 32]⟩ ++ hexS u by rw [HNV.out, if_neg h0, hk]; rfl)
      rw [hk] at HR
    case' true =>
      have HV := Lib.hid (show refS (rdOf u) = nameWS u by rw [HNV.out, if_neg h0, if_pos hk])
      rw [hk] at HR
  case neg.false =>
    generalize rdOf u = r at *
    obtain ⟨ri, rt⟩ := r
    unfold rfV at HR HRF
    simp only at HR HRF
    generalize hexS u = hx at *
    have d1 : ¬ 9223372036854775807 < 4 + hx.size := by omega
    clear h0 hk HNV HO HZK
    go_enter Tryz.func75, Tryz.ntmps75
    go_wp2_with fail
    refine HR.out.mono ?_
    rintro e w1 ⟨rfl, hb1⟩
    have HB1 := Lib.hid (hb1.alloc hb1.size (.cells #[.int .i64 ri, .int .i64 rt] 26))
    have HZ1 := Lib.hid (HZ.out.below HB1.out)
    clear hb1
    go_wp2_with fail
    refine (HHX.out _ HZ1.out).mono ?_
    rintro e w2 ⟨rfl, hb2⟩
    go_wp2
    go_ret
    exact ⟨by rw [HV.out]; rfl, HB1.out.trans (hb2.mono HB1.out.size)⟩
  all_goals
    generalize rdOf u = r at *
    obtain ⟨ri, rt⟩ := r
    unfold rfV at HR HRF
    simp only at HR HRF
    clear h0 hk HNV HO HZK
    go_enter Tryz.func75, Tryz.ntmps75
    go_wp2_with fail
    refine HR.out.mono ?_
    rintro e w1 ⟨rfl, hb1⟩
    have HB1 := Lib.hid (hb1.alloc hb1.size (.cells #[.int .i64 ri, .int .i64 rt] 26))
    have HT1 := Lib.hid (HT.out.below HB1.out)
    clear hb1
    go_wp2_with fail
    refine (HRF.out _ HT1.out).mono ?_
    rintro e w2 ⟨rfl, hb2⟩
    go_wp2
    go_ret
    exact ⟨by rw [← HV.out]; rfl, HB1.out.trans (hb2.mono HB1.out.size)⟩

end Go.Proofs.YtalkllfgedacoaaGreatDoor

namespace Go.Proofs.YtalkllfgedacoaaGreatDoor
open Go.RowKit Go.Sort

def cfgCells (c : Cfg) : List Value := [.int .i64 c.kind, .int .i64 c.threads, .int .i64 c.chans, .int .i64 c.cap, .int .i64 c.nodes, .int .i64 c.retire, .int .i64 c.patience, .int .i64 c.tags, .int .i64 c.seqs, .int .i64 c.gens, .slice c.sa c.start.length c.sc]

/-- Block b holds the shape c. -/
def BoxC (w : World) (b : Nat) (c : Cfg) : Prop := b < w.heap.size ∧ ∀ i v, (cfgCells c)[i]? = some v → w.cell? ⟨b, i, none⟩ = some v

theorem BoxC.below {w w' : World} {b : Nat} {c : Cfg} (h : BoxC w b c) (hb : Below w.heap.size w w') : BoxC w' b c :=
  ⟨Nat.lt_of_lt_of_le h.1 hb.size, fun i v hi => (hb.cell (p := ⟨b, i, none⟩) h.1).trans (h.2 i v hi)⟩

theorem BoxC.new (w : World) (c : Cfg) : BoxC (w.alloc (.cells #[.int .i64 c.kind, .int .i64 c.threads, .int .i64 c.chans, .int .i64 c.cap, .int .i64 c.nodes, .int .i64 c.retire, .int .i64 c.patience, .int .i64 c.tags, .int .i64 c.seqs, .int .i64 c.gens, .slice c.sa c.start.length c.sc] 88)) w.heap.size c := by
  refine ⟨by simp, fun i v hi => ?_⟩
  simp only [cfgCells] at hi
  rw [World.cell?_alloc_at (hn := rfl)]
  rw [← hi]
  simp

theorem BoxC.all {w : World} {b : Nat} {c : Cfg} (h : BoxC w b c) :
    (w.cell? ⟨b, 0, none⟩ = some (.int .i64 c.kind) ∧ w.cell? ⟨b, 1, none⟩ = some (.int .i64 c.threads) ∧ w.cell? ⟨b, 2, none⟩ = some (.int .i64 c.chans) ∧ w.cell? ⟨b, 3, none⟩ = some (.int .i64 c.cap) ∧
     w.cell? ⟨b, 4, none⟩ = some (.int .i64 c.nodes) ∧ w.cell? ⟨b, 5, none⟩ = some (.int .i64 c.retire) ∧ w.cell? ⟨b, 6, none⟩ = some (.int .i64 c.patience) ∧ w.cell? ⟨b, 7, none⟩ = some (.int .i64 c.tags) ∧
     w.cell? ⟨b, 8, none⟩ = some (.int .i64 c.seqs) ∧ w.cell? ⟨b, 9, none⟩ = some (.int .i64 c.gens) ∧ w.cell? ⟨b, 10, none⟩ = some (.slice c.sa c.start.length c.sc)) :=
  ⟨h.2 0 _ rfl, h.2 1 _ rfl, h.2 2 _ rfl, h.2 3 _ rfl, h.2 4 _ rfl, h.2 5 _ rfl, h.2 6 _ rfl, h.2 7 _ rfl, h.2 8 _ rfl, h.2 9 _ rfl, h.2 10 _ rfl⟩

theorem chk_kind {c : Cfg} (h : chkB c = true) : 1 ≤ c.threads ∧ c.threads ≤ 64 ∧ 1 ≤ c.retire ∧ c.retire ≤ 32 ∧ 0 ≤ c.patience ∧ c.patience ≤ 4 ∧ 0 ≤ c.cap ∧ c.cap ≤ 16 ∧ 0 ≤ c.chans ∧ c.chans ≤ 8 ∧ (c.kind = 3 ∨ (c.kind = 1 ∨ c.kind = 2) ∧ 1 ≤ c.cap) := by
  simp only [chkB, ownB, inB, Bool.and_eq_true, decide_eq_true_eq] at h
  grind

theorem chkE_ok {c : Cfg} (h : chkB c = true) : chkE c = 0 := by simp [chkE, h]
theorem chkE_no {c : Cfg} (h : chkB c = false) : chkE c = 1 := by simp [chkE, h]

theorem Check_ok (c : Cfg) (w : World) (hcf : CfgIn w c) (h : chkB c = true) :
    Calls Tryz.prog 142 #[cfgV c] w fun e w' => e = .returned (.int .i64 0) ∧ Below w.heap.size w w' := by
  rw [← chkE_ok h]; exact Check_any c w hcf
theorem Check_no (c : Cfg) (w : World) (hcf : CfgIn w c) (h : chkB c = false) :
    Calls Tryz.prog 142 #[cfgV c] w fun e w' => e = .returned (.int .i64 1) ∧ Below w.heap.size w w' := by
  rw [← chkE_no h]; exact Check_any c w hcf
theorem prod_b (a b m n : Int) (h1 : 0 ≤ a) (h2 : a ≤ m) (h3 : 0 ≤ b) (h4 : b ≤ n) : 0 ≤ a * b ∧ a * b ≤ m * n :=
  ⟨Int.mul_nonneg h1 h3, Int.mul_le_mul h2 h4 h3 (by omega)⟩

def stateS (c : Cfg) : Int := if chkB c = true then (if c.kind == 3 then 1 + c.chans * (1 + c.cap) + c.threads * 4 else 1 + c.cap) else 0
def sizeS (c : Cfg) : Int := if chkB c = true then stateS c + c.threads else 0

set_option maxHeartbeats 1000000 in
theorem State_any (c : Cfg) (w : World) (hcf : CfgIn w c) :
    Calls Tryz.prog 145 #[cfgV c] w fun e w' => e = .returned (.int .i64 (stateS c)) ∧ Below w.heap.size w w' := by
  have HC := Lib.hid hcf
  clear hcf
  unfold cfgV
  cases hk : chkB c
  · have HK := Lib.hid hk
    clear hk
    go_enter Tryz.func145, Tryz.ntmps145
    go_wp2_with (go_at_call 142; refine (Check_no c _ (HC.out.alloc _) HK.out).mono ?_; rintro e w1 ⟨rfl, hb1⟩)
    go_ret
    exact ⟨ret_int (by simp [stateS, HK.out]), ((Below.refl _ _).alloc (Nat.le_refl _) _).trans (hb1.mono (by simp))⟩
  · have HK := Lib.hid hk
    obtain ⟨g1, g2, g3, g4, g5, g6, g7, g8, g9, g10, g11⟩ := chk_kind hk
    clear hk
    have HG := Lib.hid g11
    clear g11
    have hp := prod_b c.chans (1 + c.cap) 8 17 (by omega) (by omega) (by omega) (by omega)
    obtain ⟨p1, p2⟩ := hp
    cases h3 : c.kind == 3
    all_goals
      go_enter Tryz.func145, Tryz.ntmps145
      go_wp2_with (go_at_call 142; refine (Check_ok c _ (HC.out.alloc _) HK.out).mono ?_; rintro e w1 ⟨rfl, hb1⟩; obtain ⟨c0, c1, c2, c3, c4, c5, c6, c7, c8, c9, c10⟩ := ((BoxC.new w c).below hb1).all)
      go_ret
      exact ⟨ret_int (by simp [stateS, HK.out, h3]), ((Below.refl _ _).alloc (Nat.le_refl _) _).trans (hb1.mono (by simp))⟩

theorem state_b {c : Cfg} (h : chkB c = true) : 0 ≤ stateS c ∧ stateS c ≤ 1000 := by
  obtain ⟨g1, g2, g3, g4, g5, g6, g7, g8, g9, g10, g11⟩ := chk_kind h
  have hp := prod_b c.chans (1 + c.cap) 8 17 (by omega) (by omega) (by omega) (by omega)
  simp only [stateS, h, if_true]
  split <;> omega

theorem alloc_size (w : World) (o : Obj) : w.heap.size ≤ (w.alloc o).heap.size := by simp


set_option maxHeartbeats 1000000 in
theorem Size_any (c : Cfg) (w : World) (hcf : CfgIn w c) :
    Calls Tryz.prog 118 #[cfgV c] w fun e w' => e = .returned (.int .i64 (sizeS c)) ∧ Below w.heap.size w w' := by
  have HC := Lib.hid hcf
  clear hcf
  unfold cfgV
  cases hk : chkB c
  · have HK := Lib.hid hk
    clear hk
    go_enter Tryz.func118, Tryz.ntmps118
    go_wp2_with (go_at_call 142; refine (Check_no c _ (HC.out.alloc _) HK.out).mono ?_; rintro e w1 ⟨rfl, hb1⟩)
    go_ret
    exact ⟨ret_int (by simp [sizeS, HK.out]), ((Below.refl _ _).alloc (Nat.le_refl _) _).trans (hb1.mono (by simp))⟩
  · have HK := Lib.hid hk
    obtain ⟨g1, g2, g3, g4, g5, g6, g7, g8, g9, g10, g11⟩ := chk_kind hk
    obtain ⟨s1, s2⟩ := state_b hk
    clear hk
    have HG := Lib.hid g11
    clear g11
    go_enter Tryz.func118, Tryz.ntmps118
    go_wp2_with (first
      | (go_at_call 142; refine (Check_ok c _ (HC.out.alloc _) HK.out).mono ?_; rintro e w1 ⟨rfl, hb1⟩; obtain ⟨c0, c1, c2, c3, c4, c5, c6, c7, c8, c9, c10⟩ := ((BoxC.new w c).below hb1).all; have HB := Lib.hid (((Below.refl _ _).alloc (Nat.le_refl _) _).trans (hb1.mono (alloc_size _ _))); have HCW := Lib.hid (HC.out.below HB.out); clear hb1))
    have k0 := cell_regrown c0
    have k1 := cell_regrown c1
    have k2 := cell_regrown c2
    have k3 := cell_regrown c3
    have k4 := cell_regrown c4
    have k5 := cell_regrown c5
    have k6 := cell_regrown c6
    have k7 := cell_regrown c7
    have k8 := cell_regrown c8
    have k9 := cell_regrown c9
    have k10 := cell_regrown c10
    clear c0 c1 c2 c3 c4 c5 c6 c7 c8 c9 c10
    refine wp_region_quiet_below (by kernel_rfl) (by kernel_rfl) ?_
    repeat (quiet_step ((first | (go_at_call 145; exact Calls.regrown_of (State_any c _ (HCW.out.below (below_regrown _ _ _)))))))
    refine wpQuiet_nil ?_
    intro _ hw'
    obtain ⟨⟨dq, osq⟩, hw''⟩ := hw'
    subst hw''
    go_wp2
    go_ret
    refine ⟨ret_int ?_, HB.out.trans ((below_regrown w1 dq osq).mono HB.out.size)⟩
    simp (disch := omega) only [IntWalk.i64_in]
    simp [sizeS, HK.out]


theorem state_eq (c : Cfg) : 1 + c.chans + c.chans * c.cap + 4 * c.threads = 1 + c.chans * (1 + c.cap) + c.threads * 4 := by
  rw [Int.mul_add, Int.mul_one]; omega

theorem size_b {c : Cfg} (h : chkB c = true) : 0 ≤ sizeS c ∧ sizeS c ≤ 1100 := by
  obtain ⟨g1, g2, _⟩ := chk_kind h
  have := state_b h
  simp only [sizeS, h, if_true]
  omega
theorem chk_nodes {c : Cfg} (h : chkB c = true) : 1 ≤ c.nodes ∧ c.nodes ≤ 64 := by
  simp only [chkB, inB, Bool.and_eq_true, decide_eq_true_eq] at h
  exact h.1.1.1.1.1.2

end Go.Proofs.YtalkllfgedacoaaGreatDoor

namespace Go.Proofs.YtalkllfgedacoaaGreatDoor
open Go.RowKit Go.Sort

def firstS (t s : Int) : Int := if s = 4 then 3 else if s = 5 then 3 + t else if s = 6 then 3 + t * 6 else if s = 7 then 3 + t * 7 else if s = 8 then 3 + t * 8 else 3 + t * 9
def nodesS (c : Cfg) : Int := if chkB c = true then 1 + c.threads * c.nodes else 0
def totalS (c : Cfg) : Int := if chkB c = true then 3 + c.threads * 9 + nodesS c * (1 + sizeS c) else 0

theorem nodes_b {c : Cfg} (h : chkB c = true) : 1 ≤ nodesS c ∧ nodesS c ≤ 4097 := by
  obtain ⟨g1, g2, _⟩ := chk_kind h
  obtain ⟨n1, n2⟩ := chk_nodes h
  have hp := prod_b c.threads c.nodes 64 64 (by omega) (by omega) (by omega) (by omega)
  simp only [nodesS, h, if_true]
  omega

set_option maxHeartbeats 1000000 in
theorem first_any (c : Cfg) (s : Int) (w : World) (h1 : 1 ≤ c.threads) (h2 : c.threads ≤ 64) (hs : 4 ≤ s ∧ s ≤ 9) :
    Calls Tryz.prog 117 #[cfgV c, .int .i64 s] w fun e w' => e = .returned (.int .i64 (firstS c.threads s)) ∧ Below w.heap.size w w' := by
  unfold cfgV
  rcases (show s = 4 ∨ s = 5 ∨ s = 6 ∨ s = 7 ∨ s = 8 ∨ s = 9 by omega) with rfl | rfl | rfl | rfl | rfl | rfl
  all_goals
    clear hs
    go_enter Tryz.func117, Tryz.ntmps117
    go_wp2
    go_ret
    exact ⟨ret_int (by simp [firstS]), (Below.refl _ _).alloc (Nat.le_refl _) _⟩
set_option maxHeartbeats 1000000 in
theorem Nodes_any (c : Cfg) (w : World) (hcf : CfgIn w c) :
    Calls Tryz.prog 144 #[cfgV c] w fun e w' => e = .returned (.int .i64 (nodesS c)) ∧ Below w.heap.size w w' := by
  have HC := Lib.hid hcf
  clear hcf
  unfold cfgV
  cases hk : chkB c
  · have HK := Lib.hid hk
    clear hk
    go_enter Tryz.func144, Tryz.ntmps144
    go_wp2_with (go_at_call 142; refine (Check_no c _ (HC.out.alloc _) HK.out).mono ?_; rintro e w1 ⟨rfl, hb1⟩)
    go_ret
    exact ⟨ret_int (by simp [nodesS, HK.out]), ((Below.refl _ _).alloc (Nat.le_refl _) _).trans (hb1.mono (by simp))⟩
  · have HK := Lib.hid hk
    obtain ⟨g1, g2, g3, g4, g5, g6, g7, g8, g9, g10, g11⟩ := chk_kind hk
    obtain ⟨n1, n2⟩ := chk_nodes hk
    obtain ⟨p1, p2⟩ := prod_b c.threads c.nodes 64 64 (by omega) (by omega) (by omega) (by omega)
    clear hk
    have HG := Lib.hid g11
    clear g11
    go_enter Tryz.func144, Tryz.ntmps144
    go_wp2_with (first
      | (go_at_call 142; refine (Check_ok c _ (HC.out.alloc _) HK.out).mono ?_; rintro e w1 ⟨rfl, hb1⟩; obtain ⟨c0, c1, c2, c3, c4, c5, c6, c7, c8, c9, c10⟩ := ((BoxC.new w c).below hb1).all; have HB := Lib.hid (((Below.refl _ _).alloc (Nat.le_refl _) _).trans (hb1.mono (alloc_size _ _))); have HCW := Lib.hid (HC.out.below HB.out); clear hb1))
    go_ret
    refine ⟨ret_int ?_, HB.out⟩
    skip
    simp [nodesS, HK.out]
set_option maxHeartbeats 2000000 in
theorem Node_any (c : Cfg) (i : Int) (w : World) (hcf : CfgIn w c) (hk : chkB c = true) (h1 : 0 ≤ i) (h2 : i ≤ 4097) :
    Calls Tryz.prog 143 #[cfgV c, .int .i64 i] w fun e w' => e = .returned (.int .i64 (3 + c.threads * 9 + i * (1 + sizeS c))) ∧ Below w.heap.size w w' := by
  have HC := Lib.hid hcf
  obtain ⟨g1, g2, g3, g4, g5, g6, g7, g8, g9, g10, g11⟩ := chk_kind hk
  obtain ⟨s1, s2⟩ := size_b hk
  obtain ⟨p1, p2⟩ := prod_b i (1 + sizeS c) 4097 1101 (by omega) (by omega) (by omega) (by omega)
  have HG := Lib.hid g11
  clear hcf g11 hk
  have hfs : firstS c.threads 9 = 3 + c.threads * 9 := by simp [firstS]
  have HFS := Lib.hid hfs
  clear hfs
  unfold cfgV
  have HB := Lib.hid ((Below.refl w.heap.size w).alloc (Nat.le_refl _) (.cells #[.int .i64 c.kind, .int .i64 c.threads, .int .i64 c.chans, .int .i64 c.cap, .int .i64 c.nodes, .int .i64 c.retire, .int .i64 c.patience, .int .i64 c.tags, .int .i64 c.seqs, .int .i64 c.gens, .slice c.sa c.start.length c.sc] 88))
  have HCW := Lib.hid (HC.out.below HB.out)
  have HX := Lib.hid (BoxC.new w c)
  go_enter Tryz.func143, Tryz.ntmps143
  go_wp2_with fail
  generalize (w.alloc (.cells #[.int .i64 c.kind, .int .i64 c.threads, .int .i64 c.chans, .int .i64 c.cap, .int .i64 c.nodes, .int .i64 c.retire, .int .i64 c.patience, .int .i64 c.tags, .int .i64 c.seqs, .int .i64 c.gens, .slice c.sa c.start.length c.sc] 88)) = w1 at *
  obtain ⟨c0, c1, c2, c3, c4, c5, c6, c7, c8, c9, c10⟩ := HX.out.all
  have k0 := cell_regrown c0
  have k1 := cell_regrown c1
  have k2 := cell_regrown c2
  have k3 := cell_regrown c3
  have k4 := cell_regrown c4
  have k5 := cell_regrown c5
  have k6 := cell_regrown c6
  have k7 := cell_regrown c7
  have k8 := cell_regrown c8
  have k9 := cell_regrown c9
  have k10 := cell_regrown c10
  clear c0 c1 c2 c3 c4 c5 c6 c7 c8 c9 c10
  refine wp_region_quiet_below (by kernel_rfl) (by kernel_rfl) ?_
  repeat (quiet_step ((first | (go_at_call 117; exact Calls.regrown_of (first_any c 9 _ g1 g2 ⟨by decide, by decide⟩)) | (go_at_call 118; exact Calls.regrown_of (Size_any c _ (HCW.out.below (below_regrown _ _ _)))))))
  refine wpQuiet_nil ?_
  intro _ hw'
  obtain ⟨⟨dq, osq⟩, hw''⟩ := hw'
  subst hw''
  go_wp2
  go_ret
  refine ⟨ret_int ?_, HB.out.trans ((below_regrown w1 dq osq).mono HB.out.size)⟩
  rw [HFS.out]
  simp (disch := omega) only [IntWalk.i64_in]

set_option maxHeartbeats 1000000 in
theorem Total_any (c : Cfg) (w : World) (hcf : CfgIn w c) :
    Calls Tryz.prog 116 #[cfgV c] w fun e w' => e = .returned (.int .i64 (totalS c)) ∧ Below w.heap.size w w' := by
  have HC := Lib.hid hcf
  clear hcf
  unfold cfgV
  cases hk : chkB c
  · have HK := Lib.hid hk
    clear hk
    go_enter Tryz.func116, Tryz.ntmps116
    go_wp2_with (go_at_call 142; refine (Check_no c _ (HC.out.alloc _) HK.out).mono ?_; rintro e w1 ⟨rfl, hb1⟩)
    go_ret
    exact ⟨ret_int (by simp [totalS, HK.out]), ((Below.refl _ _).alloc (Nat.le_refl _) _).trans (hb1.mono (by simp))⟩
  · have HK := Lib.hid hk
    obtain ⟨g1, g2, g3, g4, g5, g6, g7, g8, g9, g10, g11⟩ := chk_kind hk
    obtain ⟨s1, s2⟩ := size_b hk
    obtain ⟨m1, m2⟩ := nodes_b hk
    obtain ⟨p1, p2⟩ := prod_b (nodesS c) (1 + sizeS c) 4097 1101 (by omega) (by omega) (by omega) (by omega)
    clear hk
    have HG := Lib.hid g11
    clear g11
    go_enter Tryz.func116, Tryz.ntmps116
    go_wp2_with (first
      | (go_at_call 142; refine (Check_ok c _ (HC.out.alloc _) HK.out).mono ?_; rintro e w1 ⟨rfl, hb1⟩; obtain ⟨c0, c1, c2, c3, c4, c5, c6, c7, c8, c9, c10⟩ := ((BoxC.new w c).below hb1).all; have HB := Lib.hid (((Below.refl _ _).alloc (Nat.le_refl _) _).trans (hb1.mono (alloc_size _ _))); have HCW := Lib.hid (HC.out.below HB.out); clear hb1))
    have k0 := cell_regrown c0
    have k1 := cell_regrown c1
    have k2 := cell_regrown c2
    have k3 := cell_regrown c3
    have k4 := cell_regrown c4
    have k5 := cell_regrown c5
    have k6 := cell_regrown c6
    have k7 := cell_regrown c7
    have k8 := cell_regrown c8
    have k9 := cell_regrown c9
    have k10 := cell_regrown c10
    clear c0 c1 c2 c3 c4 c5 c6 c7 c8 c9 c10
    refine wp_region_quiet_below (by kernel_rfl) (by kernel_rfl) ?_
    repeat (quiet_step ((first | (go_at_call 144; exact Calls.regrown_of (Nodes_any c _ (HCW.out.below (below_regrown _ _ _)))) | (go_at_call 143; exact Calls.regrown_of (Node_any c _ _ (HCW.out.below (below_regrown _ _ _)) HK.out (Int.le_of_lt m1) m2)))))
    refine wpQuiet_nil ?_
    intro _ hw'
    obtain ⟨⟨dq, osq⟩, hw''⟩ := hw'
    subst hw''
    go_wp2
    go_ret
    refine ⟨ret_int ?_, HB.out.trans ((below_regrown w1 dq osq).mono HB.out.size)⟩
    (try simp (disch := omega) only [IntWalk.i64_in])
    simp [totalS, HK.out]

theorem total_b {c : Cfg} (h : chkB c = true) : totalS c ≤ 4600000 := by
  obtain ⟨g1, g2, _⟩ := chk_kind h
  obtain ⟨s1, s2⟩ := size_b h
  obtain ⟨m1, m2⟩ := nodes_b h
  obtain ⟨p1, p2⟩ := prod_b (nodesS c) (1 + sizeS c) 4097 1101 (by omega) (by omega) (by omega) (by omega)
  simp only [totalS, h, if_true]
  omega

end Go.Proofs.YtalkllfgedacoaaGreatDoor
