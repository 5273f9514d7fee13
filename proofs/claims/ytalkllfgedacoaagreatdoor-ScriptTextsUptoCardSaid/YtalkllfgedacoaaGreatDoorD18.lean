/- The document's one and kind, walked. -/
import Derived.Test.YtalkllfgedacoaaGreatDoorD13
import Derived.Test.YtalkllfgedacoaaGreatDoorD3
import Derived.Test.YtalkllfgedacoaaGreatDoorD14
import Derived.Great.BuildSlice
import Derived.BigRegion
namespace Go.Proofs.YtalkllfgedacoaaGreatDoor
open Go.RowKit Go.Sort

set_option maxHeartbeats 4000000 in
set_option maxRecDepth 100000 in
theorem rOne_any (d h v : Int) (o : Bool) (w : World) :
    Calls Tryz.prog 113 #[.int .i64 d, .int .i64 h, .int .i64 v, .bool o] w (RetSel o [⟨d, h, v⟩] w) := by
  go_enter Tryz.func113, Tryz.ntmps113
  go_wp2
  have hb := (Blk.new w 24 (Reqr.cells ⟨3, 0, 0, o, some ⟨w.heap.size + 1, 0, none⟩, 1, 1⟩)).alloc (.cells (Cse.cells ⟨d, h, v⟩).toArray 110)
  have hr : Rd ((w.alloc (.cells (Reqr.cells ⟨3, 0, 0, o, some ⟨w.heap.size + 1, 0, none⟩, 1, 1⟩).toArray 24)).alloc (.cells (Cse.cells ⟨d, h, v⟩).toArray 110)) (some ⟨w.heap.size + 1, 0, none⟩) (rows [(⟨d, h, v⟩ : Cse)]) :=
    (blk_new (t := 110) (cs := rows [(⟨d, h, v⟩ : Cse)]) (by simp)).rd
  refine bodyPost_ret (v := reqV ⟨3, 0, 0, o, some ⟨w.heap.size + 1, 0, none⟩, 1, 1⟩) (ret_cell (g := w.heap.size) rfl rfl (req_load hb)) rfl ?_
  refine ⟨some ⟨w.heap.size + 1, 0, none⟩, 1, 1, rfl, ⟨rfl, hr⟩, rfl, ?_, ((Below.refl _ _).alloc (Nat.le_refl _) _).alloc (by simp) _⟩
  intro b o' e
  injection e with e
  injection e with e1 _
  omega

def kNames : List ByteArray := [⟨#[]⟩, w_makeS, w_freeS, ⟨#[]⟩, w_closeS, w_lenS, w_capS]
def kindQ (s : ByteArray) : Nat := if s = w_makeS then 1 else if s = w_freeS then 2 else if s = w_closeS then 4 else if s = w_lenS then 5 else if s = w_capS then 6 else 0

set_option maxHeartbeats 4000000 in
set_option maxRecDepth 100000 in
theorem rKind_any (s : ByteArray) (w : World) :
    Calls Tryz.prog 114 #[.string s] w fun e w' => e = .returned (.int .i64 (kindQ s : Nat)) ∧ Below w.heap.size w w' := by
  have HV : RowKit.Hid (kindQ s = if s = w_makeS then 1 else if s = w_freeS then 2 else if s = w_closeS then 4 else if s = w_lenS then 5 else if s = w_capS then 6 else 0) := Lib.hid rfl
  generalize kindQ s = R at *
  have HB := Lib.hid (Blk.new w 209 (kNames.map Value.string))
  have hw : w.heap.size < (w.alloc (.cells (kNames.map Value.string).toArray 209)).heap.size := by simp
  have HLW := Lib.hid ((Below.refl w.heap.size w).alloc (Nat.le_refl _) (.cells (kNames.map Value.string).toArray 209))
  go_enter Tryz.func114, Tryz.ntmps114
  go_wp2
  have hW : RowKit.Hid (w.alloc (.cells (kNames.map Value.string).toArray 209) = w.alloc (.cells #[.string ⟨#[]⟩, .string ⟨#[109, 97, 107, 101]⟩, .string ⟨#[102, 114, 101, 101]⟩, .string ⟨#[]⟩, .string ⟨#[99, 108, 111, 115, 101]⟩, .string ⟨#[108, 101, 110]⟩, .string ⟨#[99, 97, 112]⟩] 209)) := Lib.hid rfl
  rw [hW.out] at HB hw HLW
  clear hW
  generalize w.alloc (.cells #[.string ⟨#[]⟩, .string ⟨#[109, 97, 107, 101]⟩, .string ⟨#[102, 114, 101, 101]⟩, .string ⟨#[]⟩, .string ⟨#[99, 108, 111, 115, 101]⟩, .string ⟨#[108, 101, 110]⟩, .string ⟨#[99, 97, 112]⟩] 209) = W at *
  go_loopg [4] 6 (fun gg i wr => ∃ k : Nat, 1 ≤ k ∧ k ≤ 7 ∧ gg = 7 - k ∧ i = .int .i64 k ∧ wr = W ∧ ∀ j, 1 ≤ j → j < k → ¬ (kNames.getD j ⟨#[]⟩ = s ∧ ¬ s = ⟨#[]⟩))
  case atStart => exact ⟨1, Nat.le_refl _, by omega, rfl, rfl, rfl, fun j h1 h2 => by omega⟩
  case round =>
    obtain ⟨k, hk1, hk7, hg, rfl, rfl, hno⟩ := hrel
    have HG := Lib.hid hg
    have HNO := Lib.hid hno
    clear hg hno
    by_cases hk : k < 7
    · have q1 : (k : Int) < 7 := by omega
      have x0 : wr.cell? ⟨w.heap.size, k, none⟩ = some (.string (kNames.getD k ⟨#[]⟩)) := HB.out.cell (by
        rw [List.getElem?_map, List.getD, List.getElem?_eq_getElem (show k < kNames.length from hk)]; rfl)
      generalize hnm : kNames.getD k ⟨#[]⟩ = nm at *
      have HNM := Lib.hid hnm
      clear hnm
      by_cases hs : nm = s ∧ ¬ s = ⟨#[]⟩
      · have e1 := eqT hs.1
        have e2 := eqL (l := []) hs.2 (by decide +kernel)
        have HR : RowKit.Hid (R = k) := Lib.hid (by
          have h1 := HNM.out
          rw [HV.out]
          obtain ⟨h2, h3⟩ := hs
          subst h2
          rw [← h1] at h3 ⊢
          rcases (show k = 1 ∨ k = 2 ∨ k = 3 ∨ k = 4 ∨ k = 5 ∨ k = 6 by omega) with rfl | rfl | rfl | rfl | rfl | rfl
          · decide +kernel
          · decide +kernel
          · exact absurd rfl h3
          · decide +kernel
          · decide +kernel
          · decide +kernel)
        clear hs
        go_wp2
        go_ret
        exact ⟨by rw [HR.out]; rfl, HLW.out⟩
      · have HS := Lib.hid hs
        by_cases hns : nm = s
        · have h0 : s = ⟨#[]⟩ := by
            rcases Classical.em (s = ⟨#[]⟩) with h | h
            · exact h
            · exact absurd ⟨hns, h⟩ hs
          have e1 := eqT hns
          have e2 : (s.toList == []) = true := by rw [h0]; decide +kernel
          clear hns h0 hs
          go_wp2
          go_roundg (7 - (k + 1))
          case measure => rw [HG.out]; omega
          case rel => exact ⟨k + 1, by omega, by omega, rfl, by go_num, rfl, fun j h1 h2 => by
            by_cases hj : j = k
            · subst hj; rw [HNM.out]; exact HS.out
            · exact HNO.out j h1 (by omega)⟩
        · have e1 := eqF hns
          clear hns hs
          go_wp2
          go_roundg (7 - (k + 1))
          case measure => rw [HG.out]; omega
          case rel => exact ⟨k + 1, by omega, by omega, rfl, by go_num, rfl, fun j h1 h2 => by
            by_cases hj : j = k
            · subst hj; rw [HNM.out]; exact HS.out
            · exact HNO.out j h1 (by omega)⟩
    · obtain rfl : k = 7 := by omega
      have HR : RowKit.Hid (R = 0) := Lib.hid (by
        have g : ∀ j x, 1 ≤ j → j < 7 → kNames.getD j ⟨#[]⟩ = x → ¬ x = ⟨#[]⟩ → ¬ s = x := fun j x h1 h2 h3 h4 h5 => HNO.out j h1 h2 ⟨h3.trans h5.symm, fun h6 => h4 (h5 ▸ h6)⟩
        rw [HV.out, if_neg (g 1 w_makeS (by omega) (by omega) rfl (by decide +kernel)), if_neg (g 2 w_freeS (by omega) (by omega) rfl (by decide +kernel)), if_neg (g 4 w_closeS (by omega) (by omega) rfl (by decide +kernel)), if_neg (g 5 w_lenS (by omega) (by omega) rfl (by decide +kernel)), if_neg (g 6 w_capS (by omega) (by omega) rfl (by decide +kernel))])
      go_wp2
      go_ret
      exact ⟨by rw [HR.out]; rfl, HLW.out⟩

end Go.Proofs.YtalkllfgedacoaaGreatDoor
