/- Layer 4: faults handed to the document's text, sought there by name; the example: walked. -/
import Derived.Test.YtiioedgdhkndgaaDoorLaw04a
namespace Go.Proofs.YtiioedgdhkndgaaDoor
open Go.RowKit Go.Sort Go.Extern.Stop Go.Stop Go.Extern

abbrev oneV (a : ByteArray × Int) : Value := .agg #[.string a.1, .int .i64 a.2]
theorem one_info : (Tryd.prog.info? 109).map (fun i => (i.zero, i.size, i.bytes)) = some (some (oneV (⟨#[]⟩, 0)), 2, 24) := by kernel_rfl

theorem take_snoc_getD {α : Type} (l : List α) (d : α) {k : Nat} (h : k < l.length) : l.take (k + 1) = l.take k ++ [l.getD k d] := by
  rw [List.take_succ_eq_append_getElem h]; simp [List.getD, h]

set_option maxHeartbeats 4000000 in
set_option maxRecDepth 100000 in
theorem plain_any (A : Option Addr) (c : Nat) (l : List (ByteArray × Int)) (w : World) (hR : Rd w A (rows l)) (hl : l.length ≤ 1048576) :
    Calls Tryd.prog 18 #[.slice A l.length c] w (RetRows l w) := by
  have HR := Lib.hid hR
  generalize hn : l.length = n at *
  have HN := Lib.hid hn
  clear hR hn
  go_enter Tryd.func18, Tryd.ntmps18
  go_wp2
  go_loopg [3, 8] n (fun g v i wr => ∃ (k : Nat) (V : Option Addr) (cv : Nat), k ≤ n ∧ g = n - k ∧ i = .int .i64 k ∧ v = .slice V k cv ∧ wr.ownsRow w.heap.size 109 2 (.slice V k cv) k (rows (l.take k)) ∧ Below w.heap.size w wr)
  case atStart => exact ⟨0, none, 0, Nat.zero_le _, rfl, rfl, rfl, own_nil _ _ _ _, Below.refl _ _⟩
  case round =>
    obtain ⟨k, V, cv, hk, hg, rfl, rfl, hown, hb⟩ := hrel
    have HG := Lib.hid hg
    have HB := Lib.hid hb
    have HOWN := Lib.hid hown
    clear hg hb hown
    by_cases hlt : k < n
    · have hkl : k < l.length := by rw [HN.out]; exact hlt
      obtain ⟨b, o, rfl, hbl, hc⟩ := HR.out.at_ (by rw [rows_length]; exact Nat.mul_pos (by omega) (by decide))
      have hcr : ∀ j v, (rows l)[j]? = some v → wr.cell? ⟨b, o + j, none⟩ = some v := fun j v hj => by
        rw [HB.out.cell (p := ⟨b, o + j, none⟩) hbl]; exact hc j v hj
      obtain ⟨c0, c1⟩ := one_cells hcr hkl rfl
      have HTK := Lib.hid (take_snoc_getD l (⟨#[]⟩, 0) hkl)
      generalize l.getD k (⟨#[]⟩, 0) = x at *
      obtain ⟨xs, xp⟩ := x
      simp only at c0 c1
      have q1 : (0 : Int) ≤ (k : Int) := by omega
      have q2 : (k : Int) < (n : Int) := by omega
      have HB2 := Lib.hid ((HB.out.alloc HB.out.size (.cells #[.string xs, .int .i64 xp] 39)).alloc (by have := HB.out.size; simp; omega) (.cells #[.string xs, .int .i64 xp] 109))
      clear hc hcr hkl
      go_wp2_with (at_builtin; refine wpList_app rfl (.tmp 12) (.tmp 18) 36 109 rfl w.heap.size (oneV (⟨#[]⟩, 0)) 2 24 Tryd.underlying36 one_info rfl (by decide) V k cv (rows (l.take k)) rfl ((HOWN.out.alloc _).alloc _) (some ⟨wr.heap.size + 1, 0, none⟩) 1 1 (rows [(xs, xp)]) rfl (by simp) rfl (blk_new (cs := rows [(xs, xp)]) (by simp)).rd (rows_one _) (k + 1) rfl (rows (l.take k) ++ rows [(xs, xp)]) rfl (by unfold maxLen; omega) (by omega) (by have := HB.out.size; simp; omega) ?_; intro V3 cv3 w3 hown3 hg3 hb3)
      go_roundg (n - (k + 1))
      case measure => rw [HG.out]; omega
      case rel =>
        refine ⟨k + 1, V3, cv3, by omega, rfl, by go_num, rfl, ?_, HB2.out.trans hb3⟩
        rw [HTK.out, rows_append]; exact hown3
    · obtain rfl : k = n := by omega
      have HO := HOWN.out
      rw [List.take_of_length_le (by rw [HN.out]; omega)] at HO
      have HOO := Lib.hid HO
      clear HO HOWN
      go_wp2
      go_ret
      exact ⟨V, cv, by rw [HN.out]; rfl, own_rd HOO.out, by rw [HN.out]; exact own_le HOO.out, fun hV => (own_none HOO.out hV).2.1, HB.out⟩

def exL : List (ByteArray × Int) := [(⟨#[101, 118, 101, 110, 116]⟩, 2), (⟨#[108, 105, 110, 101]⟩, 5)]
theorem exL_text : chainS exL 17 = ⟨#[101, 118, 101, 110, 116, 32, 50, 58, 32, 108, 105, 110, 101, 32, 53, 58, 32, 101, 114, 114, 111, 114, 32, 49, 55]⟩ := by decide +kernel
theorem exL_path : sepS ⟨#[47]⟩ exL = ⟨#[101, 118, 101, 110, 116, 32, 50, 47, 108, 105, 110, 101, 32, 53]⟩ := by decide +kernel
theorem exL_place : placeL ⟨#[108, 105, 110, 101]⟩ exL (0, false) = (5, true) := by decide +kernel
theorem exL_in : ∀ a ∈ exL, In64 a.2 := by
  intro a ha; simp [exL] at ha; rcases ha with rfl | rfl <;> exact ⟨by decide, by decide⟩
theorem exL_small : ∀ a ∈ exL, a.1.size ≤ 4611686018427387904 := by
  intro a ha; simp [exL] at ha; rcases ha with rfl | rfl <;> decide

set_option maxHeartbeats 8000000 in
set_option maxRecDepth 100000 in
theorem awake04_any (w : World) (ht : TabT w) (he : EtT w) : Calls Tryd.prog 13 #[] w fun e w' => e = .returned (.bool true) ∧ Below w.heap.size w w' := by
  have HT := Lib.hid ht
  have HE := Lib.hid he
  clear ht he
  go_enter Tryd.func13, Tryd.ntmps13
  go_wp2_with fail
  refine (At_any ⟨#[108, 105, 110, 101]⟩ 5 17 w (by decide)).mono ?_
  rintro e w1 ⟨v1, rfl, hc1, hb1⟩
  have HC1 := Lib.hid hc1
  have HB1 := Lib.hid hb1
  clear hc1 hb1
  go_wp2_with fail
  refine (In_any w.heap.size ⟨#[101, 118, 101, 110, 116]⟩ 2 v1 _ _ w1 HB1.out.size HC1.out).mono ?_
  rintro e w2 ⟨v2, rfl, hc2, hb2⟩
  have HB2 := Lib.hid (HB1.out.trans (hb2.mono HB1.out.size))
  obtain ⟨g2, v2', rfl, hg2, hk2, hr2⟩ := hc2
  have HC2 := Lib.hid (show Chain w.heap.size w2 (faultV g2) exL 17 from ⟨g2, v2', rfl, hg2, hk2, hr2⟩)
  clear hb2 hg2 hk2 hr2 HC1 HB1
  have HP := Lib.hid (Place_any ⟨#[108, 105, 110, 101]⟩ _ _ _ _ w2 HC2.out (HE.out.below HB2.out) (by decide))
  rw [exL_place] at HP
  go_wp2_with fail
  refine HP.out.mono ?_
  rintro e w3 ⟨rfl, hb3⟩
  have HB3 := Lib.hid (HB2.out.trans (hb3.mono HB2.out.size))
  have HC3 := Lib.hid (HC2.out.below hb3)
  clear hb3 HP HB2 HC2
  have mF := mErrorF
  have HER := Lib.hid (ErrorF_any w.heap.size exL 17 g2 w3 (by decide) HC3.out exL_in ⟨by decide, by decide⟩ (by rw [exL_text]; decide) (HT.out.below HB3.out))
  rw [exL_text] at HER
  go_wp2_with fail
  refine HER.out.mono ?_
  rintro e w4 ⟨rfl, hb4⟩
  have HB4 := Lib.hid (HB3.out.trans (hb4.mono HB3.out.size))
  have HC4 := Lib.hid (HC3.out.below hb4)
  clear hb4 HER HB3 HC3
  go_wp2_with fail
  refine (Code_any _ _ _ _ w4 HC4.out (HE.out.below HB4.out)).mono ?_
  rintro e w5 ⟨rfl, hb5⟩
  have HB5 := Lib.hid (HB4.out.trans (hb5.mono HB4.out.size))
  have HC5 := Lib.hid (HC4.out.below hb5)
  clear hb5 HB4 HC4
  have HPA := Lib.hid (Path_any _ _ _ _ w5 HC5.out (HE.out.below HB5.out) (HT.out.below HB5.out) (by decide) exL_in exL_small (by rw [exL_path]; decide))
  rw [exL_path] at HPA
  go_wp2_with fail
  refine HPA.out.mono ?_
  rintro e w6 ⟨rfl, hb6⟩
  have HB6 := Lib.hid (HB5.out.trans (hb6.mono HB5.out.size))
  have HC6 := Lib.hid (HC5.out.below hb6)
  clear hb6 HPA HB5 HC5
  have HD := Lib.hid (Deep_any _ _ _ _ w6 HC6.out (HE.out.below HB6.out) (by decide))
  rw [show exL.length = 2 from rfl] at HD
  go_wp2_with fail
  refine HD.out.mono ?_
  rintro e w7 ⟨rfl, hb7⟩
  have HB7 := Lib.hid (HB6.out.trans (hb7.mono HB6.out.size))
  clear hb7 HD HB6 HC6
  go_wp2
  go_ret
  exact ⟨rfl, HB7.out⟩

end Go.Proofs.YtiioedgdhkndgaaDoor
