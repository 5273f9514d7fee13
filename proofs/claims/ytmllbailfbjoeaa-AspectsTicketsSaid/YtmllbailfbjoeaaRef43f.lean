/- The document's Values. -/
import Derived.Test.YtmllbailfbjoeaaPlain43
import Derived.Test.YtmllbailfbjoeaaRef43c
import Derived.Test.YtmllbailfbjoeaaAsp2
namespace Go.Proofs.Ytmllbailfbjoeaa
open Go.RowKit Go.Sort

set_option maxHeartbeats 4000000 in
set_option maxRecDepth 100000 in
theorem rValues_any (A : Option Addr) (c : Nat) (ns : List Nte) (w : World) (hl : ns.length ≤ 1048576) (hR : Rd w A (rows ns)) :
    Calls Try.prog 37 #[.slice A ns.length c] w (RetIntsO (valuesS (callsS ns)) w) := by
  have HC := Lib.hid (rCalls_any A c ns w hl hR)
  rw [← calls_same] at HC
  have hcl := calls_len ns
  clear hR
  generalize ns.length = nn at *
  generalize callsS ns = l at *
  have HP := Lib.hid (fun A1 c1 v W h => tries_any A1 c1 l v W (by omega) h)
  generalize hn : l.length = n at *
  have HN := Lib.hid hn
  clear hn
  go_enter Try.func37, Try.ntmps37
  go_wp2_with fail
  refine HC.out.mono ?_
  rintro e w1 ⟨L, cl, rfl, hrd, _, _, hb1⟩
  rw [HN.out]
  have HRD := Lib.hid hrd
  have HB1 := Lib.hid hb1
  clear hrd hb1
  go_wp2
  go_loopg [4, 11] n (fun g v i wr => ∃ (k : Nat) (V : Option Addr) (cv : Nat), k ≤ n ∧ g = n - k ∧ i = .int .i64 k ∧ v = .slice V ((l.take k).filter (soleB l)).length cv ∧ wr.ownsRow w1.heap.size 3 1 (.slice V ((l.take k).filter (soleB l)).length cv) ((l.take k).filter (soleB l)).length (ints (((l.take k).filter (soleB l)).map Kall.value)) ∧ Below w1.heap.size w1 wr)
  case atStart => exact ⟨0, none, 0, Nat.zero_le _, rfl, rfl, rfl, own_nil _ _ _ _, Below.refl _ _⟩
  case round =>
    obtain ⟨k, V, cv, hk, hg, rfl, rfl, hown, hb⟩ := hrel
    have HG := Lib.hid hg
    have HB := Lib.hid hb
    have HOWN := Lib.hid hown
    have hfl := ints_len_filter l (soleB l) k
    clear hg hb hown
    by_cases hlt : k < n
    · have hkl : k < l.length := by rw [HN.out]; exact hlt
      obtain ⟨b, o, rfl, hbl, hc⟩ := HRD.out.at_ (by rw [rows_length]; exact Nat.mul_pos (by omega) (by decide))
      have hcr : ∀ j v, (rows l)[j]? = some v → wr.cell? ⟨b, o + j, none⟩ = some v := fun j v hj => by
        rw [HB.out.cell (p := ⟨b, o + j, none⟩) hbl]; exact hc j v hj
      generalize hx : l.getD k Kall.none = x
      obtain ⟨c0, c1, c2, c3, c4, c5⟩ := kall_cells hcr hkl hx
      have HX := Lib.hid hx
      have HKL := Lib.hid hkl
      have HSO : RowKit.Hid (soleB l x = (x.put && decide ((putsS l x.value).length = 1))) := Lib.hid rfl
      have HYES := Lib.hid (fun h => filter_take_yes (p := soleB l) (d := Kall.none) hkl h)
      have HNOO := Lib.hid (fun h => filter_take_no (p := soleB l) (d := Kall.none) hkl h)
      rw [hx] at HYES HNOO
      clear hc hcr hx hkl
      generalize (l.take k).filter (soleB l) = fl at *
      generalize hfn : fl.length = fn at *
      have HFN := Lib.hid hfn
      clear hfn
      have q1 : (0 : Int) ≤ (k : Int) := by omega
      have q2 : (k : Int) < (n : Int) := by omega
      cases hp : x.put
      · rw [hp] at c3
        go_wp2
        go_roundg (n - (k + 1))
        case measure => rw [HG.out]; omega
        case rel =>
          have hso : soleB l x = false := by rw [HSO.out, hp]; rfl
          refine ⟨k + 1, V, cv, by omega, rfl, by go_num, ?_, ?_, HB.out.alloc HB.out.size _⟩
          · rw [HNOO.out hso, HFN.out]
          · rw [HNOO.out hso, HFN.out]; exact HOWN.out.alloc _
      · rw [hp] at c3
        have HPU := Lib.hid (fun W h => HP.out (some ⟨b, o, none⟩) cl x.value W h)
        go_wp2_with fail
        refine (HPU.out _ ((HRD.out.below HB.out).alloc _)).mono ?_
        rintro e w2 ⟨rfl, hb2⟩
        have hbx : w2.cell? ⟨wr.heap.size, 4, none⟩ = some (.int .i64 x.value) := by
          rw [hb2.cell (p := ⟨wr.heap.size, 4, none⟩) (by simp), World.cell?_alloc_at (hn := rfl)]; rfl
        have HB2 := Lib.hid ((HB.out.alloc HB.out.size (rkbox ⟨x.beg, x.fin, x.opn, true, x.value, x.code⟩)).trans (hb2.mono (by have := HB.out.size; simp; omega)))
        have HO2 := Lib.hid (own_below (HOWN.out.alloc _) hb2)
        clear hb2
        by_cases h1 : (putsS l x.value).length = 1
        · rw [h1]
          have hso : soleB l x = true := by rw [HSO.out, hp, h1]; rfl
          have HE := Lib.hid (HYES.out hso)
          clear h1 hso
          go_wp2_with (at_builtin; refine wpList_app rfl (.tmp 24) (.tmp 27) 22 3 rfl w1.heap.size (.int .i64 0) 1 8 Try.underlying22 int_info rfl (by decide) V fn cv (ints (fl.map Kall.value)) rfl (HO2.out.alloc _) (some ⟨w2.heap.size, 0, none⟩) 1 1 (ints [x.value]) rfl (by simp) rfl (blk_new rfl).rd (ints_one _) (fn + 1) rfl (ints (fl.map Kall.value ++ [x.value])) (by simp [ints]) (by unfold maxLen; omega) (by omega) (Nat.le_trans HB2.out.size (by simp)) ?_; intro V3 cv3 w3 hown3 hg3 hb3)
          go_roundg (n - (k + 1))
          case measure => rw [HG.out]; omega
          case rel =>
            refine ⟨k + 1, V3, cv3, by omega, rfl, by go_num, ?_, ?_, (HB2.out.alloc HB2.out.size _).trans hb3⟩
            · rw [HE.out]; simp [HFN.out]
            · rw [HE.out]
              simp only [List.map_append, List.map_cons, List.map_nil, List.length_append, List.length_cons, List.length_nil, HFN.out]
              exact hown3
        · have t1 : (((putsS l x.value).length : Int) == 1) = false := by simp; omega
          have hso : soleB l x = false := by rw [HSO.out, hp]; simpa using h1
          have HE := Lib.hid (HNOO.out hso)
          clear h1 hso
          generalize (putsS l x.value).length = pn at *
          go_wp2
          go_roundg (n - (k + 1))
          case measure => rw [HG.out]; omega
          case rel =>
            refine ⟨k + 1, V, cv, by omega, rfl, by go_num, ?_, ?_, HB2.out⟩
            · rw [HE.out, HFN.out]
            · rw [HE.out, HFN.out]; exact HO2.out
    · obtain rfl : k = n := by omega
      rw [List.take_of_length_le (by rw [HN.out]; omega)] at HOWN ⊢
      have HV := Lib.hid (show (valuesS l).length = (l.filter (soleB l)).length by simp [valuesS])
      generalize hfn : (l.filter (soleB l)).length = fn at *
      go_wp2
      go_ret
      refine ⟨V, cv, ?_, ?_, HB1.out.trans (HB.out.mono HB1.out.size)⟩
      · rw [HV.out]; rfl
      · rw [HV.out]; exact own_lower HOWN.out HB1.out.size

end Go.Proofs.Ytmllbailfbjoeaa
