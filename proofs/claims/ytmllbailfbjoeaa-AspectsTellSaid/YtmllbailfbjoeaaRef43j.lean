/- The document's Denied. -/
import Derived.Test.YtmllbailfbjoeaaRef43i
namespace Go.Proofs.Ytmllbailfbjoeaa
open Go.RowKit Go.Sort

def rthereB (l : List Kall) (x p : Kall) : Bool := sureB l p && thereB l x p

set_option maxHeartbeats 8000000 in
set_option maxRecDepth 100000 in
theorem rDenied_any (A : Option Addr) (c : Nat) (ns : List Nte) (w : World) (hl : ns.length ≤ 1048576) (hR : Rd w A (rows ns)) :
    Calls Try.prog 30 #[.slice A ns.length c] w (RetIntsO (deniedS (callsS ns)) w) := by
  have HC := Lib.hid (rCalls_any A c ns w hl hR)
  rw [← calls_same] at HC
  have hcl := calls_len ns
  clear hR
  generalize ns.length = nn at *
  generalize callsS ns = l at *
  rw [← denied_same]
  have HUD : RowKit.Hid (rdeniedS l = (l.filter (rdenB l)).map Kall.beg) := Lib.hid rfl
  have HQ := Lib.hid (fun A1 c1 x W h => rsure_any A1 c1 l x W (by omega) h)
  have HGN := Lib.hid (fun A1 c1 v u W h => rgone_any A1 c1 l v u W (by omega) h)
  generalize hn : l.length = n at *
  have HN := Lib.hid hn
  clear hn
  go_enter Try.func30, Try.ntmps30
  go_wp2_with fail
  refine HC.out.mono ?_
  rintro e w1 ⟨L, cl, rfl, hrd, _, _, hb1⟩
  rw [HN.out]
  have HRD := Lib.hid hrd
  have HB1 := Lib.hid hb1
  clear hrd hb1
  go_wp2
  go_loopg [4, 14] n (fun g v i wr => ∃ (k : Nat) (V : Option Addr) (cv : Nat), k ≤ n ∧ g = n - k ∧ i = .int .i64 k ∧ v = .slice V ((l.take k).filter (rdenB l)).length cv ∧ wr.ownsRow w1.heap.size 3 1 (.slice V ((l.take k).filter (rdenB l)).length cv) ((l.take k).filter (rdenB l)).length (ints (((l.take k).filter (rdenB l)).map Kall.beg)) ∧ Below w1.heap.size w1 wr)
  case atStart => exact ⟨0, none, 0, Nat.zero_le _, rfl, rfl, rfl, own_nil _ _ _ _, Below.refl _ _⟩
  case round =>
    obtain ⟨k, V, cv, hk, hg, rfl, rfl, hown, hb⟩ := hrel
    have HG := Lib.hid hg
    have HB := Lib.hid hb
    have HOWN := Lib.hid hown
    have hfl := ints_len_filter l (rdenB l) k
    clear hg hb hown
    by_cases hlt : k < n
    · have hkl : k < l.length := by rw [HN.out]; exact hlt
      obtain ⟨b, o, rfl, hbl, hc⟩ := HRD.out.at_ (by rw [rows_length]; exact Nat.mul_pos (by omega) (by decide))
      have HCC := Lib.hid hc
      have hcr : ∀ j v, (rows l)[j]? = some v → wr.cell? ⟨b, o + j, none⟩ = some v := fun j v hj => by
        rw [HB.out.cell (p := ⟨b, o + j, none⟩) hbl]; exact hc j v hj
      generalize hx : l.getD k Kall.none = x
      obtain ⟨c0, c1, c2, c3, c4, c5⟩ := kall_cells hcr hkl hx
      have HYES := Lib.hid (fun h => filter_take_yes (p := rdenB l) (d := Kall.none) hkl h)
      have HNOO := Lib.hid (fun h => filter_take_no (p := rdenB l) (d := Kall.none) hkl h)
      rw [hx] at HYES HNOO
      clear hc hcr hx hkl
      generalize (l.take k).filter (rdenB l) = fl at *
      have HSO : RowKit.Hid (rdenB l x = (l.any (rthereB l x) && askB x)) := Lib.hid rfl
      have HAS : RowKit.Hid (askB x = (!x.put && !x.opn && x.code == 10)) := Lib.hid rfl
      generalize hfn : fl.length = fn at *
      have HFN := Lib.hid hfn
      clear hfn
      have q1 : (0 : Int) ≤ (k : Int) := by omega
      have q2 : (k : Int) < (n : Int) := by omega
      have HBX : RowKit.Hid (Blk (wr.alloc (rkbox x)) wr.heap.size 88 x.cells) := Lib.hid (Blk.new wr 88 x.cells)
      have HB2 := Lib.hid (HB.out.alloc HB.out.size (rkbox x))
      have HO2 := Lib.hid (HOWN.out.alloc (rkbox x))
      go_upto_region 6 with (fail)
      clear c0 c1 c2 c3 c4 c5 HB HOWN
      generalize wr.alloc (rkbox x) = wo at *
      generalize wr.heap.size = gb at *
      go_wp2
      go_loopg [7, 20] n (fun g s7 j wi => ∃ (k : Nat), k ≤ n ∧ g = n - k ∧ j = .int .i64 k ∧ s7 = .bool ((l.take k).any (rthereB l x)) ∧ wi.ownsRow w1.heap.size 3 1 (.slice V fn cv) fn (ints (fl.map Kall.beg)) ∧ Below w1.heap.size w1 wi ∧ Blk wi gb 88 x.cells)
      case atStart => exact ⟨0, Nat.zero_le _, rfl, rfl, by simp, HO2.out, HB2.out, HBX.out⟩
      case round =>
        obtain ⟨j, hj, hg, rfl, rfl, hown, hb, hbk⟩ := hrel
        have HGI := Lib.hid hg
        have HB := Lib.hid hb
        have HOWN := Lib.hid hown
        have HBK := Lib.hid hbk
        clear hg hb hown hbk HB2 HO2 HBX
        by_cases hjn : j < n
        · have hjl : j < l.length := by rw [HN.out]; exact hjn
          have hcr : ∀ i v, (rows l)[i]? = some v → wr.cell? ⟨b, o + i, none⟩ = some v := fun i v hi => by
            rw [HB.out.cell (p := ⟨b, o + i, none⟩) hbl]; exact HCC.out i v hi
          have HAN := Lib.hid (any_take (q := rthereB l x) (d := Kall.none) hjl)
          generalize hy : l.getD j Kall.none = y at *
          obtain ⟨c0, c1, c2, c3, c4, c5⟩ := kall_cells hcr hjl hy
          clear hcr hy hjl
          generalize (l.take j).any (rthereB l x) = an at *
          have q3 : (0 : Int) ≤ (j : Int) := by omega
          have q4 : (j : Int) < (n : Int) := by omega
          have HTH : RowKit.Hid (rthereB l x y = (sureB l y && (decide (y.fin < x.beg) && !goneS l y.value x.fin))) := Lib.hid rfl
          have HNX : RowKit.Hid (∀ (w3 : World) (v : Bool), Below wr.heap.size wr w3 → v = (an || rthereB l x y) → ∃ (k : Nat), k ≤ n ∧ n - (j + 1) = n - k ∧ Value.int .i64 ((j : Int) + 1) = .int .i64 k ∧ Value.bool v = .bool ((l.take k).any (rthereB l x)) ∧ w3.ownsRow w1.heap.size 3 1 (.slice V fn cv) fn (ints (fl.map Kall.beg)) ∧ Below w1.heap.size w1 w3 ∧ Blk w3 gb 88 x.cells) := Lib.hid (fun w3 v hb3 hv => ⟨j + 1, by omega, rfl, by go_num, by rw [HAN.out, hv], own_below HOWN.out hb3, HB.out.trans (hb3.mono HB.out.size), HBK.out.below hb3 HBK.out.lt⟩)
          go_wp2_with fail
          refine (HQ.out (some ⟨b, o, none⟩) cl y _ ((HRD.out.below HB.out).alloc _)).mono ?_
          rintro e w2 ⟨rfl, hb2⟩
          have hby : Blk w2 wr.heap.size 88 y.cells := (Blk.new wr 88 y.cells).below hb2 (by simp)
          have HB2 := Lib.hid (show Below wr.heap.size wr w2 from ((Below.refl _ _).alloc (Nat.le_refl _) (rkbox y)).trans (hb2.mono (by simp)))
          have y1 : w2.cell? ⟨wr.heap.size, 1, none⟩ = some (.int .i64 y.fin) := hby.cell rfl
          have y4 : w2.cell? ⟨wr.heap.size, 4, none⟩ = some (.int .i64 y.value) := hby.cell rfl
          have x0 : w2.cell? ⟨gb, 0, none⟩ = some (.int .i64 x.beg) := (HBK.out.below HB2.out HBK.out.lt).cell rfl
          have x1 : w2.cell? ⟨gb, 1, none⟩ = some (.int .i64 x.fin) := (HBK.out.below HB2.out HBK.out.lt).cell rfl
          clear hb2 hby c0 c1 c2 c3 c4 c5
          cases hs : sureB l y
          · rw [hs] at HTH
            go_wp2
            go_roundg (n - (j + 1))
            case measure => rw [HGI.out]; omega
            case rel => exact HNX.out _ an HB2.out (by rw [HTH.out]; simp)
          · rw [hs] at HTH
            by_cases hlt2 : y.fin < x.beg
            · have t1 : decide (y.fin < x.beg) = true := by simpa using hlt2
              rw [t1] at HTH
              have HGG := Lib.hid (HGN.out (some ⟨b, o, none⟩) cl y.value x.fin _ ((HRD.out.below HB.out).below HB2.out))
              cases hgn : goneS l y.value x.fin
              all_goals
                rw [hgn] at HTH HGG
                go_wp2_with fail
                refine HGG.out.mono ?_
                rintro e w4 ⟨rfl, hb4⟩
                have HB4 := Lib.hid (HB2.out.trans (hb4.mono HB2.out.size))
                clear hb4
                go_wp2
                go_roundg (n - (j + 1))
                case measure => rw [HGI.out]; omega
                case rel => first | exact HNX.out _ an HB4.out (by rw [HTH.out]; simp) | exact HNX.out _ true HB4.out (by rw [HTH.out]; simp)
            · have t1 : decide (y.fin < x.beg) = false := by simpa using hlt2
              rw [t1] at HTH
              go_wp2
              go_roundg (n - (j + 1))
              case measure => rw [HGI.out]; omega
              case rel => exact HNX.out _ an HB2.out (by rw [HTH.out]; simp)
        · obtain rfl : j = n := by omega
          rw [List.take_of_length_le (by rw [HN.out]; omega)]
          have b0 := HBK.out.cell (i := 0) rfl
          have b2 := HBK.out.cell (i := 2) rfl
          have b3 := HBK.out.cell (i := 3) rfl
          have b5 := HBK.out.cell (i := 5) rfl
          have HNEXT : RowKit.Hid (rdenB l x = false → ∃ (k' : Nat) (V' : Option Addr) (cv' : Nat), k' ≤ j ∧ j - (k + 1) = j - k' ∧ Value.int .i64 ((k : Int) + 1) = .int .i64 k' ∧ Value.slice V fn cv = .slice V' ((l.take k').filter (rdenB l)).length cv' ∧ wr.ownsRow w1.heap.size 3 1 (.slice V' ((l.take k').filter (rdenB l)).length cv') ((l.take k').filter (rdenB l)).length (ints (((l.take k').filter (rdenB l)).map Kall.beg)) ∧ Below w1.heap.size w1 wr) := Lib.hid (by
            intro hf
            exact ⟨k + 1, V, cv, by omega, rfl, by go_num, by rw [HNOO.out hf, HFN.out], by rw [HNOO.out hf, HFN.out]; exact HOWN.out, HB.out⟩)
          cases han : l.any (rthereB l x)
          · have HF := Lib.hid (show rdenB l x = false by rw [HSO.out, han]; rfl)
            go_wp2
            go_roundg (j - (k + 1))
            case measure => rw [HG.out]; omega
            case rel => exact HNEXT.out HF.out
          · cases hp : x.put
            · rw [hp] at b3 HAS
              cases ho : x.opn
              · rw [ho] at b2 HAS
                cases hcd : (x.code == 10)
                · rw [hcd] at HAS
                  have HF := Lib.hid (show rdenB l x = false by rw [HSO.out, HAS.out]; simp)
                  go_wp2
                  go_roundg (j - (k + 1))
                  case measure => rw [HG.out]; omega
                  case rel => exact HNEXT.out HF.out
                · rw [hcd] at HAS
                  have HE := Lib.hid (HYES.out (show rdenB l x = true by rw [HSO.out, HAS.out, han]; rfl))
                  go_wp2_with (at_builtin; refine wpList_app rfl (.tmp 60) (.tmp 63) 22 3 rfl w1.heap.size (.int .i64 0) 1 8 Try.underlying22 int_info rfl (by decide) V fn cv (ints (fl.map Kall.beg)) rfl (HOWN.out.alloc _) (some ⟨wr.heap.size, 0, none⟩) 1 1 (ints [x.beg]) rfl (by simp) rfl (blk_new rfl).rd (ints_one _) (fn + 1) rfl (ints (fl.map Kall.beg ++ [x.beg])) (by simp [ints]) (by unfold maxLen; omega) (by omega) (Nat.le_trans HB.out.size (by simp)) ?_; intro V3 cv3 w4 hown3 hg3 hb4)
                  go_roundg (j - (k + 1))
                  case measure => rw [HG.out]; omega
                  case rel =>
                    refine ⟨k + 1, V3, cv3, by omega, rfl, by go_num, ?_, ?_, (HB.out.alloc HB.out.size _).trans hb4⟩
                    · rw [HE.out]; simp [HFN.out]
                    · rw [HE.out]
                      simp only [List.map_append, List.map_cons, List.map_nil, List.length_append, List.length_cons, List.length_nil, HFN.out]
                      exact hown3
              · rw [ho] at b2 HAS
                have HF := Lib.hid (show rdenB l x = false by rw [HSO.out, HAS.out]; simp)
                go_wp2
                go_roundg (j - (k + 1))
                case measure => rw [HG.out]; omega
                case rel => exact HNEXT.out HF.out
            · rw [hp] at b3 HAS
              have HF := Lib.hid (show rdenB l x = false by rw [HSO.out, HAS.out]; simp)
              go_wp2
              go_roundg (j - (k + 1))
              case measure => rw [HG.out]; omega
              case rel => exact HNEXT.out HF.out
    · obtain rfl : k = n := by omega
      rw [List.take_of_length_le (by rw [HN.out]; omega)] at HOWN ⊢
      have HV := Lib.hid (show (rdeniedS l).length = (l.filter (rdenB l)).length by rw [HUD.out, List.length_map])
      generalize hfn : (l.filter (rdenB l)).length = fn at *
      go_wp2
      go_ret
      refine ⟨V, cv, ?_, ?_, HB1.out.trans (HB.out.mono HB1.out.size)⟩
      · rw [HV.out]; rfl
      · rw [HV.out, HUD.out]; exact own_lower HOWN.out HB1.out.size

end Go.Proofs.Ytmllbailfbjoeaa
