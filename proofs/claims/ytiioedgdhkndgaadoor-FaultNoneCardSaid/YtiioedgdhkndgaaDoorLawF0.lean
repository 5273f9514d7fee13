/- The law FaultNone, walked. -/
import Derived.Test.YtiioedgdhkndgaaDoorE9
namespace Go.Proofs.YtiioedgdhkndgaaDoor
open Go.RowKit Go.Sort Go.Extern.Stop Go.Stop Go.Extern

set_option maxHeartbeats 16000000 in
set_option maxRecDepth 100000 in
theorem LawF0_any (what tx : ByteArray) (p : Int) (w : World) (hs : what.size ≤ 140737488355328) (hx : tx.size ≤ 140737488355328) (hp : In64 p) (ht : TabT w) (het : EtT w) :
    Calls Tryd.prog 4 #[.string what, .string tx, .int .i64 p] w fun er w' => er = .returned (.bool true) ∧ Below w.heap.size w w' := by
  have HT := Lib.hid ht
  have HE := Lib.hid het
  have hz := itoaS_size hp
  have HSZ := Lib.hid hs
  have HXZ := Lib.hid hx
  have HP := Lib.hid hp
  have HF : RowKit.Hid (faultS what p = what ++ ⟨#[32]⟩ ++ itoaS p) := Lib.hid rfl
  have hfs : (faultS what p).size ≤ 140737488355328 + 30 := by
    have h32 : (⟨#[32]⟩ : ByteArray).size = 1 := rfl
    rw [HF.out, ByteArray.size_append, ByteArray.size_append, h32]; omega
  have hone : ∀ a ∈ [(what, p)], In64 a.2 := by intro a ha; simp at ha; subst ha; exact hp
  have HPL := Lib.hid (fun A c W h => plain_any A c [(what, p)] W h (by simp))
  have HRT := Lib.hid (fun A c W h => rTextB_any A c [(what, p)] 0 W h hone (by rw [show sepS ⟨#[58, 32]⟩ [(what, p)] = faultS what p from rfl]; omega) (by unfold maxLen; simp))
  rw [show sepS ⟨#[58, 32]⟩ [(what, p)] = faultS what p from rfl, show [(what, p)].length = 1 from rfl] at HRT
  rw [show [(what, p)].length = 1 from rfl] at HPL
  clear ht het hone hp hz HF
  have mF := mErrorF
  go_enter Tryd.func4, Tryd.ntmps4
  go_wp2_with fail
  refine (New_err tx w).mono ?_
  rintro er w1 ⟨rfl, hw1⟩
  have HBT := Lib.hid (show Blk w1 w.heap.size 108 [.string tx] from by rw [hw1]; exact Blk.new w _ [.string tx])
  have HB1 := Lib.hid (show Below w.heap.size w w1 from by rw [hw1]; exact (Below.refl _ _).alloc (Nat.le_refl _) _)
  clear hw1
  go_wp2_with fail
  refine (In_iface what p _ _ w1).mono ?_
  rintro er w2 ⟨rfl, hw2⟩
  have hb2 : Below w1.heap.size w1 w2 := by rw [hw2]; exact (Below.refl _ _).alloc (Nat.le_refl _) _
  have HBF := Lib.hid (show Blk w2 w1.heap.size 105 [.string what, .int .i64 p, tipV w.heap.size] from by rw [hw2]; exact Blk.new w1 _ [.string what, .int .i64 p, tipV w.heap.size])
  have HBT2 := Lib.hid (HBT.out.below hb2 HBT.out.lt)
  have HB2 := Lib.hid (HB1.out.trans (hb2.mono HB1.out.size))
  clear hw2 hb2 HBT
  generalize w1.heap.size = g at *
  generalize hbt : w.heap.size = bt at *
  have HBS := Lib.hid hbt
  clear hbt
  have HER := Lib.hid (ErrorFS_any g bt what tx p w2 HBF.out HBT2.out HP.out HSZ.out HXZ.out (HT.out.below (HB2.out.mono (Nat.le_of_eq HBS.out))))
  go_wp2_with fail
  refine HER.out.mono ?_
  rintro er w3 ⟨rfl, hb3⟩
  have HB3 := Lib.hid (HB2.out.trans (hb3.mono (HBS.out ▸ HB2.out.size)))
  have HBF3 := Lib.hid (HBF.out.below hb3 HBF.out.lt)
  clear hb3 HER HBF HBT2 HB2
  go_wp2_with fail
  have hb4 := (Below.refl w3.heap.size w3).alloc (Nat.le_refl _) (.cells #[.string what, .int .i64 p] 39)
  have HRD := Lib.hid (show Rd (w3.alloc (.cells #[.string what, .int .i64 p] 39)) (some ⟨w3.heap.size, 0, none⟩) (rows [(what, p)]) from (Blk.new w3 39 [.string what, .int .i64 p]).rd)
  have HB4 := Lib.hid (HB3.out.trans (hb4.mono (by rw [← HBS.out]; exact HB3.out.size)))
  have HBF4 := Lib.hid (HBF3.out.below hb4 HBF3.out.lt)
  clear hb4 HB3 HBF3
  generalize w3.alloc (.cells #[.string what, .int .i64 p] 39) = w4 at *
  refine (HPL.out _ _ _ HRD.out).mono ?_
  rintro er w5 ⟨A5, c5, rfl, hr5, _, _, hb5⟩
  rw [show [(what, p)].length = 1 from rfl]
  have HB5 := Lib.hid (HB4.out.trans (hb5.mono (by rw [← HBS.out]; exact HB4.out.size)))
  have HBF5 := Lib.hid (HBF4.out.below hb5 HBF4.out.lt)
  have HR5 := Lib.hid hr5
  clear hb5 hr5 HB4 HBF4
  go_wp2_with fail
  refine (HRT.out _ _ _ HR5.out).mono ?_
  rintro er w6 ⟨rfl, hb6⟩
  have HB6 := Lib.hid (HB5.out.trans (hb6.mono (by rw [← HBS.out]; exact HB5.out.size)))
  have HBF6 := Lib.hid (HBF5.out.below hb6 HBF5.out.lt)
  clear hb6 HR5 HB5 HBF5
  have d1 : ¬ 9223372036854775807 < (faultS what p).size + 2 := by have := HXZ.out; omega
  have d2 : ¬ 9223372036854775807 < (faultS what p).size + 2 + tx.size := by have := HXZ.out; omega
  generalize faultS what p = fs at *
  have HN1 := Lib.hid (In_nil what p)
  have HN2 := Lib.hid (At_none what p)
  have HCO := Lib.hid (fun W h1 h2 => CodeS_any g bt what p W h1 h2)
  have HIS := Lib.hid (fun W h1 => FIsS_any g bt what p 1 W h1)
  have HDP := Lib.hid (fun W h1 h2 => DeepS_any g bt what p W h1 h2)
  have HB6' := Lib.hid (show Below w.heap.size w w6 from by rw [HBS.out]; exact HB6.out)
  clear hfs HB6
  go_wp2_with (first
    | (go_at_call 19; refine (Error_nilF _).mono ?_; rintro er w7 ⟨rfl, rfl⟩)
    | (go_at_call 20; refine (Unwrap_nilF _).mono ?_; rintro er w7 ⟨rfl, rfl⟩)
    | (go_at_call 15; refine (HN1.out _).mono ?_; rintro er w7 ⟨rfl, rfl⟩)
    | (go_at_call 21; refine (HN2.out _).mono ?_; rintro er w7 ⟨rfl, rfl⟩)
    | (go_at_call 12; refine (HCO.out _ HBF6.out (HE.out.below HB6'.out)).mono ?_; rintro er w7 ⟨rfl, hb7⟩; have HB7 := Lib.hid (HB6'.out.trans (hb7.mono HB6'.out.size)); have HBF7 := Lib.hid (HBF6.out.below hb7 HBF6.out.lt); clear hb7)
    | (go_at_call 11; refine (HIS.out _ HBF7.out).mono ?_; rintro er w8 ⟨rfl, rfl⟩)
    | (go_at_call 22; refine (HDP.out _ HBF7.out (HE.out.below HB7.out)).mono ?_; rintro er w8 ⟨rfl, hb8⟩; have HB8 := Lib.hid (HB7.out.trans (hb8.mono HB7.out.size)); clear hb8 HBF7 HDP)
    | (go_at_call 22; refine (Deep_nil _).mono ?_; rintro er w9 ⟨rfl, hb9⟩; have HB9 := Lib.hid (HB8.out.trans (hb9.mono HB8.out.size)); clear hb9)
    | (go_at_call 23; refine (Path_nil _).mono ?_; rintro er wa ⟨rfl, hba⟩; have HBa := Lib.hid (HB9.out.trans (hba.mono HB9.out.size)); have HA := Lib.hid (awake04_any wa (HT.out.below HBa.out) (HE.out.below HBa.out)); clear hba)
    | (go_at_call 13; refine HA.out.mono ?_; rintro er wb ⟨rfl, hbb⟩))
  go_ret
  exact ⟨rfl, HBa.out.trans (hbb.mono HBa.out.size)⟩

end Go.Proofs.YtiioedgdhkndgaaDoor
