/- The law FaultTexts, walked. -/
import Derived.Test.YtmllbailfbjoeaaDoorLaw04b
namespace Go.Proofs.YtmllbailfbjoeaaDoor
open Go.RowKit Go.Sort Go.Extern.Stop Go.Stop Go.Extern

theorem sepS_le (sep : ByteArray) (M : Nat) : ∀ (l : List (ByteArray × Int)), (∀ a ∈ l, a.1.size ≤ M ∧ In64 a.2) → (sepS sep l).size ≤ l.length * (M + 22 + sep.size)
  | [], _ => by simp [sepS]; rfl
  | [x], h => by
    have hx := h x (by simp)
    have hz := itoaS_size hx.2
    have h32 : (⟨#[32]⟩ : ByteArray).size = 1 := rfl
    rw [sepS, faultS, ByteArray.size_append, ByteArray.size_append, h32]
    simp only [List.length_cons, List.length_nil]
    omega
  | x :: y :: r, h => by
    have ih := sepS_le sep M (y :: r) (fun a ha => h a (by simp [ha]))
    have hx := h x (by simp)
    have hz := itoaS_size hx.2
    have h32 : (⟨#[32]⟩ : ByteArray).size = 1 := rfl
    rw [sepS, faultS, ByteArray.size_append, ByteArray.size_append, ByteArray.size_append, ByteArray.size_append, h32]
    rw [List.length_cons, Nat.succ_mul]
    omega

theorem errnoS_le {e : Int} (h : In64 e) : (errnoS e).size ≤ 27 := by
  have hz := itoaS_size h
  have h6 : (⟨#[101, 114, 114, 111, 114, 32]⟩ : ByteArray).size = 6 := rfl
  rw [errnoS, ByteArray.size_append, h6]; omega

theorem chainS_le (M : Nat) (l : List (ByteArray × Int)) (e : Int) (h : ∀ a ∈ l, a.1.size ≤ M ∧ In64 a.2) (he : In64 e) : (chainS l e).size ≤ l.length * (M + 24) + 29 := by
  have h1 := sepS_le ⟨#[58, 32]⟩ M l h
  have h2 := errnoS_le he
  have h3 : (⟨#[58, 32]⟩ : ByteArray).size = 2 := rfl
  rw [h3, show M + 22 + 2 = M + 24 from rfl] at h1
  rw [chain_text]
  split
  · omega
  · rw [ByteArray.size_append, ByteArray.size_append, h3]; omega

set_option maxHeartbeats 8000000 in
set_option maxRecDepth 100000 in
theorem LawFT_none (A : Option Addr) (c : Nat) (l : List (ByteArray × Int)) (e : Int) (what : ByteArray) (w : World) (hl : l.length = 0 ∨ 60 < l.length) (hlm : l.length ≤ maxLen) (ht : TabT w) (het : EtT w) :
    Calls Tryd.prog 7 #[.slice A l.length c, .int .i64 e, .string what] w fun er w' => er = .returned (.bool true) ∧ Below w.heap.size w w' := by
  unfold maxLen at hlm
  have HA := Lib.hid (awake04_any w ht het)
  generalize l.length = n at *
  clear ht het
  rcases hl with rfl | hl
  · go_enter Tryd.func7, Tryd.ntmps7
    go_wp2_with (first | (go_at_call 44; refine (made_nil _ _ _ _).mono ?_; rintro er w2 ⟨rfl, rfl⟩) | (go_at_call 45; refine HA.out.mono ?_; rintro er w3 ⟨rfl, hb⟩))
    go_ret
    exact ⟨rfl, hb⟩
  · have t0 : ((n : Int) == 0) = false := by simp; omega
    have t1 : (60 : Int) < (n : Int) := by omega
    go_enter Tryd.func7, Tryd.ntmps7
    go_wp2_with (first | (go_at_call 44; refine (made_nil _ _ _ _).mono ?_; rintro er w2 ⟨rfl, rfl⟩) | (go_at_call 45; refine HA.out.mono ?_; rintro er w3 ⟨rfl, hb⟩))
    go_ret
    exact ⟨rfl, hb⟩

set_option maxHeartbeats 8000000 in
set_option maxRecDepth 100000 in
theorem LawFT_zero (A : Option Addr) (c : Nat) (l : List (ByteArray × Int)) (what : ByteArray) (w : World) (hR : Rd w A (rows l)) (hl1 : 0 < l.length) (hl2 : l.length ≤ 60) (ht : TabT w) (het : EtT w) :
    Calls Tryd.prog 7 #[.slice A l.length c, .int .i64 0, .string what] w fun er w' => er = .returned (.bool true) ∧ Below w.heap.size w w' := by
  have HM := Lib.hid (made_any A c l 0 w hR (by intro h; rw [h] at hl1; simp at hl1) (by unfold maxLen; omega))
  have HT := Lib.hid ht
  have HE := Lib.hid het
  generalize l.length = n at *
  clear ht het hR
  have t0 : ((n : Int) == 0) = false := by simp; omega
  have t1 : ¬ (60 : Int) < (n : Int) := by omega
  go_enter Tryd.func7, Tryd.ntmps7
  go_wp2_with fail
  refine HM.out.mono ?_
  rintro er w2 ⟨y, rfl, hy, hb2⟩
  obtain rfl : y = .nilIface := by unfold MadeV at hy; rw [if_pos rfl] at hy; exact hy
  have HA := Lib.hid (awake04_any w2 (HT.out.below hb2) (HE.out.below hb2))
  have HB := Lib.hid hb2
  clear hy hb2 HM HT HE
  go_wp2_with (first | (go_at_call 45; refine HA.out.mono ?_; rintro er w3 ⟨rfl, hb⟩))
  go_ret
  exact ⟨rfl, HB.out.trans (hb.mono HB.out.size)⟩

set_option maxHeartbeats 16000000 in
set_option maxRecDepth 100000 in
theorem LawFT_main (A : Option Addr) (c : Nat) (l : List (ByteArray × Int)) (e : Int) (what : ByteArray) (w : World) (hR : Rd w A (rows l)) (hl1 : 0 < l.length) (hl2 : l.length ≤ 60) (he : In64 e) (hez : e ≠ 0)
    (hP : ∀ a ∈ l, a.1.size ≤ 1048576 ∧ In64 a.2) (ht : TabT w) (het : EtT w) :
    Calls Tryd.prog 7 #[.slice A l.length c, .int .i64 e, .string what] w fun er w' => er = .returned (.bool true) ∧ Below w.heap.size w w' := by
  have hne : l ≠ [] := by intro h; rw [h] at hl1; simp at hl1
  have HM := Lib.hid (made_any A c l e w hR hne (by unfold maxLen; omega))
  have HT := Lib.hid ht
  have HE := Lib.hid het
  have HR := Lib.hid hR
  have HNE := Lib.hid hne
  have hin : ∀ a ∈ l, In64 a.2 := fun a ha => (hP a ha).2
  have hcs := chainS_le 1048576 l e hP he
  have hss := sepS_le ⟨#[58, 32]⟩ 1048576 l hP
  have hps := sepS_le ⟨#[47]⟩ 1048576 l hP
  have h2 : (⟨#[58, 32]⟩ : ByteArray).size = 2 := rfl
  have h1 : (⟨#[47]⟩ : ByteArray).size = 1 := rfl
  have hmul : l.length * (1048576 + 24) ≤ 60 * 1048600 := Nat.mul_le_mul_right 1048600 hl2
  have hmul1 : l.length * (1048576 + 22 + 1) ≤ 60 * 1048599 := Nat.mul_le_mul_right 1048599 hl2
  have HCS := Lib.hid (show (chainS l e).size ≤ 9223372036854775807 by omega)
  have HSS := Lib.hid (show (sepS ⟨#[58, 32]⟩ l).size ≤ 4611686018427387904 by rw [h2] at hss; omega)
  have HPS := Lib.hid (show (sepS ⟨#[47]⟩ l).size ≤ 140737488355328 by rw [h1] at hps; omega)
  have HEI := Lib.hid he
  have HIN := Lib.hid hin
  have HSM := Lib.hid (show ∀ a ∈ l, a.1.size ≤ 4611686018427387904 from fun a ha => Nat.le_trans (hP a ha).1 (by decide))
  have HPL := Lib.hid (fun W h => plain_any A c l W h (by omega))
  have HL64 := Lib.hid (show l.length < 64 by omega)
  have b1 : (e == 0) = false := by simpa using hez
  have hlm : l.length ≤ maxLen := by unfold maxLen; omega
  have HEZ := Lib.hid hez
  have HRT := Lib.hid (fun A' c' W h => rText_any A' c' l e W h hin he HSS.out hlm)
  have HRP := Lib.hid (fun A' c' W h => rPath_any A' c' l W h hin (by have := HPS.out; omega) hlm)
  have HRL := Lib.hid (fun A' c' W h => rPlace_any what A' c' l W h hlm)
  clear hlm ht het hR hne hin hcs hss hps h2 h1 hmul hmul1 hP hez he
  have mF := mErrorF
  have t0 : ((l.length : Int) == 0) = false := beq_eq_false_iff_ne.2 (by omega)
  have t1 : ¬ (60 : Int) < (l.length : Int) := by omega
  generalize hn : l.length = n at *
  have HN := Lib.hid hn
  clear hn
  go_enter Tryd.func7, Tryd.ntmps7
  go_wp2_with fail
  refine HM.out.mono ?_
  rintro er w2 ⟨y, rfl, hy, hb2⟩
  have hc2 : Chain w.heap.size w2 y l e := by unfold MadeV at hy; rw [if_neg HEZ.out] at hy; exact hy
  have HB2 := Lib.hid hb2
  clear hy hb2 HM
  obtain ⟨g, rfl⟩ : ∃ g, y = faultV g := by
    cases l with
    | nil => exact absurd rfl HNE.out
    | cons a r => obtain ⟨a1, a2⟩ := a; obtain ⟨g, _, h1, _⟩ := hc2; exact ⟨g, h1⟩
  have HC2 := Lib.hid hc2
  clear hc2
  have HER := Lib.hid (ErrorF_any w.heap.size l e g w2 HNE.out HC2.out HIN.out HEI.out HCS.out (HT.out.below HB2.out))
  go_wp2_with fail
  refine HER.out.mono ?_
  rintro er w3 ⟨rfl, hb3⟩
  have HB3 := Lib.hid (HB2.out.trans (hb3.mono HB2.out.size))
  have HC3 := Lib.hid (HC2.out.below hb3)
  clear hb3 HER HB2 HC2
  go_wp2_with fail
  refine (HPL.out _ (HR.out.below HB3.out)).mono ?_
  rintro er w4 ⟨A4, c4, rfl, hr4, _, _, hb4⟩
  rw [HN.out]
  have HB4 := Lib.hid (HB3.out.trans (hb4.mono HB3.out.size))
  have HC4 := Lib.hid (HC3.out.below hb4)
  have HR4 := Lib.hid hr4
  clear hb4 hr4 HB3 HC3
  go_wp2_with fail
  refine (HRT.out _ _ _ HR4.out).mono ?_
  rintro er w5 ⟨rfl, hb5⟩
  have HB5 := Lib.hid (HB4.out.trans (hb5.mono HB4.out.size))
  have HC5 := Lib.hid (HC4.out.below hb5)
  clear hb5 HR4 HB4 HC4
  generalize chainS l e = tx at *
  have HPA := Lib.hid (Path_any _ _ _ _ w5 HC5.out (HE.out.below HB5.out) (HT.out.below HB5.out) (by rw [HN.out]; exact HL64.out) HIN.out HSM.out HPS.out)
  go_wp2_with fail
  refine HPA.out.mono ?_
  rintro er w6 ⟨rfl, hb6⟩
  have HB6 := Lib.hid (HB5.out.trans (hb6.mono HB5.out.size))
  have HC6 := Lib.hid (HC5.out.below hb6)
  clear hb6 HPA HB5 HC5
  go_wp2_with fail
  refine (HPL.out _ (HR.out.below HB6.out)).mono ?_
  rintro er w7 ⟨A7, c7, rfl, hr7, _, _, hb7⟩
  rw [HN.out]
  have HB7 := Lib.hid (HB6.out.trans (hb7.mono HB6.out.size))
  have HC7 := Lib.hid (HC6.out.below hb7)
  have HR7 := Lib.hid hr7
  clear hb7 hr7 HB6 HC6
  go_wp2_with fail
  refine (HRP.out _ _ _ HR7.out).mono ?_
  rintro er w8 ⟨rfl, hb8⟩
  have HB8 := Lib.hid (HB7.out.trans (hb8.mono HB7.out.size))
  have HC8 := Lib.hid (HC7.out.below hb8)
  clear hb8 HR7 HB7 HC7
  generalize sepS ⟨#[47]⟩ l = ptx at *
  have HD := Lib.hid (Deep_any _ _ _ _ w8 HC8.out (HE.out.below HB8.out) (by rw [HN.out]; exact HL64.out))
  rw [HN.out] at HD
  go_wp2_with fail
  refine HD.out.mono ?_
  rintro er w9 ⟨rfl, hb9⟩
  have HB9 := Lib.hid (HB8.out.trans (hb9.mono HB8.out.size))
  have HC9 := Lib.hid (HC8.out.below hb9)
  clear hb9 HD HB8 HC8
  have HPQ := Lib.hid (Place_any what _ _ _ _ w9 HC9.out (HE.out.below HB9.out) (by rw [HN.out]; exact HL64.out))
  go_wp2_with fail
  refine HPQ.out.mono ?_
  rintro er wa ⟨rfl, hba⟩
  have HBa := Lib.hid (HB9.out.trans (hba.mono HB9.out.size))
  have HCa := Lib.hid (HC9.out.below hba)
  clear hba HPQ HB9 HC9
  go_wp2_with fail
  refine (HPL.out _ (HR.out.below HBa.out)).mono ?_
  rintro er wb ⟨Ab, cb, rfl, hrb, _, _, hbb⟩
  rw [HN.out]
  have HBb := Lib.hid (HBa.out.trans (hbb.mono HBa.out.size))
  have HCb := Lib.hid (HCa.out.below hbb)
  have HRb := Lib.hid hrb
  clear hbb hrb HBa HCa
  go_wp2_with fail
  refine (HRL.out _ _ _ HRb.out).mono ?_
  rintro er wc ⟨rfl, rfl⟩
  generalize placeL what l (0, false) = pl at *
  obtain ⟨pp, pb⟩ := pl
  have hpb : (pb == pb) = true := by simp
  have HCO := Lib.hid (Code_any _ _ _ _ wb HCb.out (HE.out.below HBb.out))
  go_wp2_with fail
  refine HCO.out.mono ?_
  rintro er wd ⟨rfl, hbd⟩
  have HBd := Lib.hid (HBb.out.trans (hbd.mono HBb.out.size))
  clear hbd HCO HBb HCb
  have HA := Lib.hid (awake04_any wd (HT.out.below HBd.out) (HE.out.below HBd.out))
  go_wp2_with fail
  refine HA.out.mono ?_
  rintro er we ⟨rfl, hbe⟩
  have HBe := Lib.hid (HBd.out.trans (hbe.mono HBd.out.size))
  clear hbe HA HBd
  go_wp2
  go_ret
  exact ⟨rfl, HBe.out⟩

theorem LawFT_any (A : Option Addr) (c : Nat) (l : List (ByteArray × Int)) (e : Int) (what : ByteArray) (w : World) (hR : Rd w A (rows l)) (hl : l.length ≤ maxLen) (he : In64 e)
    (hP : ∀ a ∈ l, a.1.size ≤ 1048576 ∧ In64 a.2) (ht : TabT w) (het : EtT w) :
    Calls Tryd.prog 7 #[.slice A l.length c, .int .i64 e, .string what] w fun er w' => er = .returned (.bool true) ∧ Below w.heap.size w w' := by
  by_cases h : l.length = 0 ∨ 60 < l.length
  · exact LawFT_none A c l e what w h hl ht het
  · by_cases hz : e = 0
    · subst hz; exact LawFT_zero A c l what w hR (by omega) (by omega) ht het
    · exact LawFT_main A c l e what w hR (by omega) (by omega) he hz hP ht het

end Go.Proofs.YtmllbailfbjoeaaDoor
