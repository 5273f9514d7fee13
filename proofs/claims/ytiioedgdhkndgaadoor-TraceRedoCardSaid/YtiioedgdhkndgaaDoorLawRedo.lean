/- The law TraceRedo, walked: accesses done to words, and taken back. -/
import Derived.Test.YtiioedgdhkndgaaDoorLawBack
import Derived.Deep.RegionHeld3
namespace Go.Proofs.YtiioedgdhkndgaaDoor
open Go.RowKit Go.Sort

theorem back_short : ∀ (l : List Acc) (ws : List Int), (backS ws l).1.length ≤ ws.length
  | [], ws => by rw [backS]; exact Nat.le_refl _
  | a :: l, ws => by
    have ih := back_short l (ws.set a.addr.toNat a.old)
    rw [List.length_set] at ih
    rw [backS]
    split
    · exact ih
    · exact Nat.zero_le _

set_option maxHeartbeats 16000000 in
set_option maxRecDepth 100000 in
theorem LawRedo_any (A B : Option Addr) (c d : Nat) (ws : List Int) (l : List Acc) (a : Acc) (size : Int) (w : World) (hn : ws.length * 8 ≤ 140737488355328) (hlm : l.length ≤ maxLen) (hA0 : A = none → ws.length = 0 ∧ c = 0) (hA : Rd w A (words ws)) (hB : Rd w B (accs l)) (ht : TabT w) (hz : Tz16 w) :
    Calls Tryd.prog 7 #[.slice A ws.length c, .slice B l.length d, accV a, .int .i64 size] w fun e w' => e = .returned (.bool true) ∧ Below w.heap.size w w' := by
  have HA := Lib.hid hA
  have HB := Lib.hid hB
  have HA0 := Lib.hid hA0
  have HT := Lib.hid ht
  have HZ := Lib.hid hz
  have H1 := Lib.hid (fun W h1 h2 => Redo_any A B c d ws l W hn hlm h1 h2)
  have H2 := Lib.hid (fun W h1 h2 => rRedo_any A B c d ws l W hn hlm h1 hA0 h2)
  have H3 := Lib.hid (fun W h1 h2 => Undo_any A B c d ws l W hn hlm h1 h2)
  have H4 := Lib.hid (fun W h1 h2 => rUndo_any A B c d ws l W hn hlm h1 hA0 h2)
  have HSR := Lib.hid (redo_short l ws)
  have HSU := Lib.hid (show (undoS ws l).1.length ≤ ws.length from back_short _ _)
  have HG1 := Lib.hid (fun W => Good_any a size W)
  have HG2 := Lib.hid (fun W => rGood_any a size W)
  have HLM := Lib.hid hlm
  have HWM : RowKit.Hid (ws.length ≤ maxLen) := Lib.hid (by unfold maxLen; omega)
  have HW0 := Lib.hid ((Below.refl w.heap.size w).alloc (Nat.le_refl _) (.cells a.cells.toArray 74))
  have HBX0 := Lib.hid (Blk.new w 74 a.cells)
  clear hA hB hA0 ht hz hlm
  generalize hm : l.length = m at *
  generalize hk : ws.length = n at *
  have HM := Lib.hid hm
  have HN := Lib.hid hk
  clear hm hk
  generalize redoS ws l = r at *
  generalize undoS ws l = u at *
  obtain ⟨r1, r2⟩ := r
  obtain ⟨u1, u2⟩ := u
  simp only at HSR HSU
  generalize hgd : goodB a size = gd at *
  clear hgd
  unfold accV
  unfold accV at HG1 HG2
  go_enter Tryd.func7, Tryd.ntmps7
  go_wp2_with (at_builtin; refine wpList_app rfl (.tmp 18) (.tmp 19) 71 62 rfl (w.heap.size + 1) (.int .u64 0) 1 8 Tryd.underlying71 CloneW_info rfl (by decide) (some ⟨w.heap.size + 1, 0, none⟩) 0 0 [] rfl (own_blank (blk_new (by simp)) (Nat.le_refl _)) A n c (words ws) rfl HA0.out (by rw [words_length, HN.out]; simp) ((HA.out.below HW0.out).alloc _) (words_one ws) n (by omega) (words ws) (by simp) (by unfold maxLen; omega) (by omega) (by simp) ?_; intro Aw cw w1 hown hg hb1)
  have hb1' : Below (w.heap.size + 1) (w.alloc (.cells a.cells.toArray 74)) w1 := ((Below.refl _ _).alloc (by simp) (.cells #[] 62)).trans hb1
  have HBX1 := Lib.hid (HBX0.out.below hb1' (by omega))
  have HW1 := Lib.hid (HW0.out.trans (hb1'.mono (Nat.le_succ _)))
  have HWS := Lib.hid (own_rd hown)
  clear hown hg hb1 hb1' HBX0 HW0
  go_wp2_with fail
  refine (H1.out _ (HA.out.below HW1.out) (HB.out.below HW1.out)).mono ?_
  rintro e w2 hr
  obtain ⟨A2, c2, rfl, hr2, hb2⟩ := hr
  have HR2 := Lib.hid hr2
  have HBX2 := Lib.hid (HBX1.out.below hb2 HBX1.out.lt)
  have HWS2 := Lib.hid (HWS.out.below hb2)
  have HW2 := Lib.hid (HW1.out.trans (hb2.mono HW1.out.size))
  clear hr2 hb2 HBX1 HWS HW1
  simp only
  go_wp2_with fail
  refine (H2.out _ (HA.out.below HW2.out) (HB.out.below HW2.out)).mono ?_
  rintro e w3 hr
  obtain ⟨A3, c3, rfl, hr3, hb3⟩ := hr
  have HR3 := Lib.hid hr3
  have HR23 := Lib.hid (HR2.out.below hb3)
  have HBX3 := Lib.hid (HBX2.out.below hb3 HBX2.out.lt)
  have HWS3 := Lib.hid (HWS2.out.below hb3)
  have HW3 := Lib.hid (HW2.out.trans (hb3.mono HW2.out.size))
  clear hr3 hb3 HBX2 HWS2 HW2 HR2
  simp only
  go_wp2_with fail
  refine (H3.out _ (HA.out.below HW3.out) (HB.out.below HW3.out)).mono ?_
  rintro e w4 hr
  obtain ⟨A4, c4, rfl, hr4, hb4⟩ := hr
  have HR4 := Lib.hid hr4
  have HR24 := Lib.hid (HR23.out.below hb4)
  have HR34 := Lib.hid (HR3.out.below hb4)
  have HBX4 := Lib.hid (HBX3.out.below hb4 HBX3.out.lt)
  have HWS4 := Lib.hid (HWS3.out.below hb4)
  have HW4 := Lib.hid (HW3.out.trans (hb4.mono HW3.out.size))
  clear hr4 hb4 HBX3 HWS3 HW3 HR23 HR3
  simp only
  go_wp2_with fail
  refine (H4.out _ (HA.out.below HW4.out) (HB.out.below HW4.out)).mono ?_
  rintro e w5 hr
  obtain ⟨A5, c5, rfl, hr5, hb5⟩ := hr
  have HR5 := Lib.hid hr5
  have HR25 := Lib.hid (HR24.out.below hb5)
  have HR35 := Lib.hid (HR34.out.below hb5)
  have HR45 := Lib.hid (HR4.out.below hb5)
  have HBX5 := Lib.hid (HBX4.out.below hb5 HBX4.out.lt)
  have HWS5 := Lib.hid (HWS4.out.below hb5)
  have HW5 := Lib.hid (HW4.out.trans (hb5.mono HW4.out.size))
  clear hr5 hb5 HBX4 HWS4 HW4 HR24 HR34 HR4 H1 H2 H3 H4
  simp only
  go_upto_region 6 with (fail)
  have HE1 := Lib.hid (fun W h1 h2 => Words_any A2 A3 c2 c3 r1 r1 W (by have := HSR.out; have := HWM.out; omega) (by have := HSR.out; have := HWM.out; omega) h1 h2)
  rw [show (r1 == r1) = true by simp] at HE1
  have HE2 := Lib.hid (fun W h1 h2 => Words_any A4 A5 c4 c5 u1 u1 W (by have := HSU.out; have := HWM.out; omega) (by have := HSU.out; have := HWM.out; omega) h1 h2)
  rw [show (u1 == u1) = true by simp] at HE2
  have HE3 := Lib.hid (fun W h1 h2 => Words_any A Aw c cw ws ws W (by rw [HN.out]; exact HWM.out) (by rw [HN.out]; exact HWM.out) h1 h2)
  rw [show (ws == ws) = true by simp, HN.out] at HE3
  have e1 : (r2 == r2) = true := by simp
  have e2 : (u2 == u2) = true := by simp
  have e3 : (gd == gd) = true := by simp
  obtain ⟨x0, x1, x2, x3, x4, x5, x6⟩ := accBox HBX5.out
  have hgl := HBX5.out.lt
  have HDR := Lib.hid (Below.drewN' (Below.refl w5.heap.size w5) 1)
  have HD1 : RowKit.Hid (Rd w5.drew A2 (words r1)) := Lib.hid (HR25.out.below HDR.out)
  have HD2 : RowKit.Hid (Rd w5.drew A3 (words r1)) := Lib.hid (HR35.out.below HDR.out)
  generalize r1.length = n1 at *
  generalize u1.length = n2 at *
  go_region_held3 (fun w' => w'.cell? ⟨w.heap.size, 0, none⟩ = some (.int .i64 a.thread) ∧ w'.cell? ⟨w.heap.size, 1, none⟩ = some (.int .i64 a.kind) ∧ w'.cell? ⟨w.heap.size, 2, none⟩ = some (.int .i64 a.addr) ∧ w'.cell? ⟨w.heap.size, 3, none⟩ = some (.int .u64 a.want) ∧ w'.cell? ⟨w.heap.size, 4, none⟩ = some (.int .u64 a.old) ∧ w'.cell? ⟨w.heap.size, 5, none⟩ = some (.int .u64 a.now) ∧ w'.cell? ⟨w.heap.size, 6, none⟩ = some (.bool a.ok)) (first | go_keep | (simp only [hk1]; go_keep)) (first
    | (go_at_call 43; (with_reducible refine (HE1.out w5.drew HD1.out HD2.out).mono ?_); rintro e w6 ⟨rfl, hb6⟩; have hB6 : Below w5.heap.size w5 w6 := ⟨hb6.os, hb6.tape, hb6.output, hb6.size, hb6.block⟩; have hk1 := fun o => hB6.cell (p := ⟨w.heap.size, o, none⟩) hgl; have HD4 := Lib.hid (HR45.out.below hB6); have HD5 := Lib.hid (HR5.out.below hB6))
    | (go_at_call 43; (with_reducible refine (HE2.out w6 HD4.out HD5.out).mono ?_); rintro e w7 ⟨rfl, hb7⟩; have hB7 : Below w5.heap.size w5 w7 := hB6.trans (hb7.mono hB6.size); have hk1 := fun o => hB7.cell (p := ⟨w.heap.size, o, none⟩) hgl)
    | (go_at_call 44; refine (HG1.out w7).mono ?_; rintro e w8 ⟨rfl, hb8⟩; have hB8 : Below w5.heap.size w5 w8 := hB7.trans (hb8.mono hB7.size); have hk1 := fun o => hB8.cell (p := ⟨w.heap.size, o, none⟩) hgl)
    | (go_at_call 45; refine (HG2.out w8).mono ?_; rintro e w9 ⟨rfl, hb9⟩; have hB9 : Below w5.heap.size w5 w9 := hB8.trans (hb9.mono hB8.size); have hk1 := fun o => hB9.cell (p := ⟨w.heap.size, o, none⟩) hgl; have HD6 := Lib.hid ((HA.out.below HW5.out).below hB9); have HD7 := Lib.hid (HWS5.out.below hB9))
    | (go_at_call 43; (with_reducible refine (HE3.out w9 HD6.out HD7.out).mono ?_); rintro e wa ⟨rfl, hba⟩; have hBa : Below w5.heap.size w5 wa := hB9.trans (hba.mono hB9.size); have hk1 := fun o => hBa.cell (p := ⟨w.heap.size, o, none⟩) hgl)
    | (go_at_call 46; refine (awake27_any wa ((HT.out.below HW5.out).below hBa) ((HZ.out.below HW5.out).below hBa)).mono ?_; rintro e wb ⟨rfl, hbb⟩; have hBb : Below w5.heap.size w5 wb := hBa.trans (hbb.mono hBa.size); have hk1 := fun o => hBb.cell (p := ⟨w.heap.size, o, none⟩) hgl))
  go_wp2
  go_ret
  exact ⟨rfl, HW5.out.trans (hBb.mono HW5.out.size)⟩

end Go.Proofs.YtiioedgdhkndgaaDoor
