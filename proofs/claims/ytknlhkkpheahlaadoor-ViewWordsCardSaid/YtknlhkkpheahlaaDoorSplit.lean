/- The document's Split (stopgateref24), walked. -/
import Derived.Test.YtknlhkkpheahlaaDoorStrs
namespace Go.Proofs.YtknlhkkpheahlaaDoor
open Go.RowKit Go.Sort

/-- The pieces ahead of place k, and where the piece that is open began. -/
def splitTo (s : ByteArray) (c : UInt8) : Nat → List ByteArray × Nat
  | 0 => ([], 0)
  | k + 1 => if s.data.toList.getD k 0 = c then ((splitTo s c k).1 ++ [s.extract (splitTo s c k).2 k], k + 1) else splitTo s c k
def splitB (s : ByteArray) (c : UInt8) : List ByteArray := (splitTo s c s.size).1 ++ [s.extract (splitTo s c s.size).2 s.size]

theorem splitTo_b (s : ByteArray) (c : UInt8) : ∀ k, (splitTo s c k).1.length ≤ k ∧ (splitTo s c k).2 ≤ k
  | 0 => by simp [splitTo]
  | k + 1 => by
    have ih := splitTo_b s c k
    rw [splitTo]
    split
    · simp; omega
    · omega

set_option maxHeartbeats 4000000 in
set_option maxRecDepth 100000 in
theorem Split_any (s : ByteArray) (c : UInt8) (w : World) (hs : s.size ≤ 1099511627776) :
    Calls Tryd.prog 51 #[.string s, .int .u8 (c.toNat : Int)] w fun e w' => ∃ A cp, e = .returned (.slice A (splitB s c).length cp) ∧ w'.ownsRow w.heap.size 9 1 (.slice A (splitB s c).length cp) (splitB s c).length (rows (splitB s c)) ∧ Below w.heap.size w w' := by
  have HSB : RowKit.Hid (splitB s c = (splitTo s c s.size).1 ++ [s.extract (splitTo s c s.size).2 s.size]) := Lib.hid rfl
  go_enter Tryd.func51, Tryd.ntmps51
  go_wp2
  go_loopg [5, 6, 7] s.size (fun g ov fv i wr => ∃ (k : Nat) (V : Option Addr) (cv : Nat), g = s.size - k ∧ k ≤ s.size ∧ i = .int .i64 k ∧ fv = .int .i64 (splitTo s c k).2 ∧ ov = .slice V (splitTo s c k).1.length cv ∧ wr.ownsRow w.heap.size 9 1 (.slice V (splitTo s c k).1.length cv) (splitTo s c k).1.length (rows (splitTo s c k).1) ∧ Below w.heap.size w wr)
  case atStart => exact ⟨0, none, 0, by omega, Nat.zero_le _, rfl, rfl, rfl, own_nil _ _ _ _, Below.refl _ _⟩
  case round =>
    obtain ⟨k, V, cv, hg, hk, rfl, rfl, rfl, hown, hb⟩ := hrel
    have HG := Lib.hid hg
    have HB := Lib.hid hb
    have HO := Lib.hid hown
    have hsb := splitTo_b s c k
    have HST : RowKit.Hid (splitTo s c (k + 1) = if s.data.toList.getD k 0 = c then ((splitTo s c k).1 ++ [s.extract (splitTo s c k).2 k], k + 1) else splitTo s c k) := Lib.hid rfl
    obtain ⟨hs1, hs2⟩ := hsb
    clear hg hb hown
    by_cases hlt : k < s.size
    · have HGD := Lib.hid (show s.data.toList.getD k 0 = s[k] by
        have h1 : k < s.data.size := hlt
        rw [List.getD, Array.getElem?_toList, Array.getElem?_eq_getElem h1]; rfl)
      rw [HGD.out] at HST
      generalize hst : splitTo s c k = st at *
      obtain ⟨ol, fr⟩ := st
      simp only at HO HST hs1 hs2
      generalize hon : ol.length = on at *
      have HON := Lib.hid hon
      clear hst hon
      by_cases hbc : s[k] = c
      · have HE := Lib.hid (show splitTo s c (k + 1) = (ol ++ [s.extract fr k], k + 1) by rw [HST.out, if_pos hbc])
        have b1 : ((s[k].toNat : Int) == (c.toNat : Int)) = true := by rw [hbc]; simp
        have q1 : (0 : Int) ≤ (fr : Int) := by omega
        have q2 : (fr : Int) ≤ (k : Int) := by omega
        have q3 : (k : Int) ≤ (s.size : Int) := by omega
        clear hbc HST
        go_wp2_with (at_builtin; refine wpList_app rfl (.tmp 19) (.tmp 24) 86 9 rfl w.heap.size (.string ⟨#[]⟩) 1 16 Tryd.underlying86 str_info rfl (by decide) V on cv (rows ol) rfl (HO.out.alloc _) (some ⟨wr.heap.size, 0, none⟩) 1 1 (rows [s.extract fr k]) rfl (by simp) rfl (blk_new (cs := rows [s.extract fr k]) rfl).rd (rows_one _) (on + 1) rfl (rows (ol ++ [s.extract fr k])) (by rw [rows_append]) (by unfold maxLen; omega) (by omega) (by have := HB.out.size; simp; omega) ?_; intro V3 cv3 w3 hown3 hg3 hb3)
        go_roundg (s.size - (k + 1))
        case measure => rw [HG.out]; omega
        case rel =>
          refine ⟨k + 1, V3, cv3, rfl, by omega, by go_num, ?_, ?_, ?_, (HB.out.alloc HB.out.size _).trans hb3⟩
          · rw [HE.out]; go_num
          · rw [HE.out]; simp [HON.out]
          · rw [HE.out]; simp only [List.length_append, List.length_cons, List.length_nil, HON.out]; exact hown3
      · have HE := Lib.hid (show splitTo s c (k + 1) = (ol, fr) by rw [HST.out, if_neg hbc])
        have b1 : ((s[k].toNat : Int) == (c.toNat : Int)) = false := by
          rw [beq_eq_false_iff_ne]; intro h; exact hbc (UInt8.toNat_inj.1 (by omega))
        clear hbc HST
        go_wp2
        go_roundg (s.size - (k + 1))
        case measure => rw [HG.out]; omega
        case rel =>
          refine ⟨k + 1, V, cv, rfl, by omega, by go_num, by rw [HE.out], by rw [HE.out, HON.out], ?_, HB.out⟩
          rw [HE.out]; simp only [HON.out]; exact HO.out
    · obtain rfl : k = s.size := by omega
      generalize hst : splitTo s c s.size = st at *
      obtain ⟨ol, fr⟩ := st
      simp only at HO HSB hs1 hs2
      generalize hon : ol.length = on at *
      have HON := Lib.hid hon
      have HLN := Lib.hid (show (splitB s c).length = on + 1 by rw [HSB.out]; simp [HON.out])
      clear hst hon HST
      have q1 : (0 : Int) ≤ (fr : Int) := by omega
      have q2 : (fr : Int) ≤ (s.size : Int) := by omega
      go_wp2_with (at_builtin; refine wpList_app rfl (.tmp 28) (.tmp 32) 86 9 rfl w.heap.size (.string ⟨#[]⟩) 1 16 Tryd.underlying86 str_info rfl (by decide) V on cv (rows ol) rfl (HO.out.alloc _) (some ⟨wr.heap.size, 0, none⟩) 1 1 (rows [s.extract fr s.size]) rfl (by simp) rfl (blk_new (cs := rows [s.extract fr s.size]) rfl).rd (rows_one _) (on + 1) rfl (rows (ol ++ [s.extract fr s.size])) (by rw [rows_append]) (by unfold maxLen; omega) (by omega) (by have := HB.out.size; simp; omega) ?_; intro V3 cv3 w3 hown3 hg3 hb3)
      go_ret
      refine ⟨V3, cv3, by rw [HLN.out]; rfl, ?_, (HB.out.alloc HB.out.size _).trans hb3⟩
      rw [HLN.out, HSB.out]; exact hown3

end Go.Proofs.YtknlhkkpheahlaaDoor
