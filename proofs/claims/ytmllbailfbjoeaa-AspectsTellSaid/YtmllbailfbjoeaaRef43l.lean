/- The document's Passed. -/
import Derived.Test.YtmllbailfbjoeaaRef43j
namespace Go.Proofs.Ytmllbailfbjoeaa
open Go.RowKit Go.Sort

theorem pairB_head (l : List Kall) (a b : Kall) : pairB l a b = (decide (0 < (takesS l b.value).length) && (decide (a.fin < b.beg) && !goneS l a.value (headK (takesS l b.value)).fin)) := by
  unfold pairB
  cases takesS l b.value with
  | nil => simp
  | cons t r => simp [headK]

theorem Blk.six {w : World} {g : Nat} {t : TypeId} {x : Kall} (h : Blk w g t x.cells) :
    w.cell? ⟨g, 0, none⟩ = some (.int .i64 x.beg) ∧ w.cell? ⟨g, 1, none⟩ = some (.int .i64 x.fin) ∧ w.cell? ⟨g, 2, none⟩ = some (.bool x.opn) ∧ w.cell? ⟨g, 3, none⟩ = some (.bool x.put) ∧ w.cell? ⟨g, 4, none⟩ = some (.int .i64 x.value) ∧ w.cell? ⟨g, 5, none⟩ = some (.int .i64 x.code) :=
  ⟨h.cell rfl, h.cell rfl, h.cell rfl, h.cell rfl, h.cell rfl, h.cell rfl⟩

set_option maxHeartbeats 8000000 in
set_option maxRecDepth 100000 in
theorem rPassed_any (A : Option Addr) (c : Nat) (ns : List Nte) (w : World) (hl : ns.length ≤ 1024) (hR : Rd w A (rows ns)) :
    Calls Try.prog 27 #[.slice A ns.length c] w (RetRows (passedS (callsS ns)) w) := by
  have HC := Lib.hid (rCalls_any A c ns w (by omega) hR)
  rw [← calls_same] at HC
  have hcl := calls_len ns
  clear hR
  generalize ns.length = nn at *
  generalize callsS ns = l at *
  rw [← passed_same]
  have HPS : RowKit.Hid (rpassedS l = allG (rpairB l) l l.length) := Lib.hid rfl
  have HT := Lib.hid (fun A1 c1 v W h => took_any A1 c1 l v W (by omega) h)
  have HQ := Lib.hid (fun A1 c1 x W h => rsure_any A1 c1 l x W (by omega) h)
  have HGN := Lib.hid (fun A1 c1 v u W h => rgone_any A1 c1 l v u W (by omega) h)
  have HAL := Lib.hid (allG_len (rpairB l) l)
  generalize hn : l.length = n at *
  have HN := Lib.hid hn
  clear hn
  go_enter Try.func27, Try.ntmps27
  go_wp2_with fail
  refine HC.out.mono ?_
  rintro e w1 ⟨L, cl, rfl, hrd, _, _, hb1⟩
  rw [HN.out]
  have HRD := Lib.hid hrd
  have HB1 := Lib.hid hb1
  clear hrd hb1
  go_wp2
  go_loopg [4, 15] n (fun g v i wr => ∃ (k : Nat) (V : Option Addr) (cv : Nat), k ≤ n ∧ g = n - k ∧ i = .int .i64 k ∧ v = .slice V (allG (rpairB l) l k).length cv ∧ wr.ownsRow w1.heap.size 33 2 (.slice V (allG (rpairB l) l k).length cv) (allG (rpairB l) l k).length (rows (allG (rpairB l) l k)) ∧ Below w1.heap.size w1 wr)
  case atStart => exact ⟨0, none, 0, Nat.zero_le _, rfl, rfl, rfl, own_nil _ _ _ _, Below.refl _ _⟩
  case round =>
    obtain ⟨i, V, cv, hi, hg, rfl, rfl, hown, hb⟩ := hrel
    have HG := Lib.hid hg
    have HB := Lib.hid hb
    have HOWN := Lib.hid hown
    have hal := HAL.out i
    have hal2 : i * n ≤ 1048576 := by
      have h1 : i * n ≤ n * n := Nat.mul_le_mul_right _ hi
      have h2 : n * n ≤ 1024 * 1024 := Nat.mul_le_mul (by omega) (by omega)
      omega
    clear hg hb hown
    by_cases hlt : i < n
    · have hil : i < l.length := by rw [HN.out]; exact hlt
      obtain ⟨b, o, rfl, hbl, hc⟩ := HRD.out.at_ (by rw [rows_length]; exact Nat.mul_pos (by omega) (by decide))
      have hcr : ∀ j v, (rows l)[j]? = some v → wr.cell? ⟨b, o + j, none⟩ = some v := fun j v hj => by
        rw [HB.out.cell (p := ⟨b, o + j, none⟩) hbl]; exact hc j v hj
      generalize hx : l.getD i Kall.none = x
      obtain ⟨c0, c1, c2, c3, c4, c5⟩ := kall_cells hcr hil hx
      have HSTEP := Lib.hid (show allG (rpairB l) l (i + 1) = allG (rpairB l) l i ++ rowG (rpairB l) l x n by rw [allG, hx, HN.out])
      have HCC := Lib.hid hc
      clear hc hcr hx hil
      generalize allG (rpairB l) l i = pl at *
      have q1 : (0 : Int) ≤ (i : Int) := by omega
      have q2 : (i : Int) < (n : Int) := by omega
      have HBX : RowKit.Hid (Blk (wr.alloc (rkbox x)) wr.heap.size 88 x.cells) := Lib.hid (Blk.new wr 88 x.cells)
      have HB2 := Lib.hid (HB.out.alloc HB.out.size (rkbox x))
      have HO2 := Lib.hid (HOWN.out.alloc (rkbox x))
      go_upto_region 6 with (fail)
      clear c0 c1 c2 c3 c4 c5 HB HOWN
      generalize wr.alloc (rkbox x) = wo at *
      generalize wr.heap.size = gb at *
      go_wp2
      go_loopg [4, 21] n (fun g v j wi => ∃ (k : Nat) (V : Option Addr) (cv : Nat), k ≤ n ∧ g = n - k ∧ j = .int .i64 k ∧ v = .slice V (pl ++ rowG (rpairB l) l x k).length cv ∧ wi.ownsRow w1.heap.size 33 2 (.slice V (pl ++ rowG (rpairB l) l x k).length cv) (pl ++ rowG (rpairB l) l x k).length (rows (pl ++ rowG (rpairB l) l x k)) ∧ Below w1.heap.size w1 wi ∧ Blk wi gb 88 x.cells)
      case atStart =>
        refine ⟨0, V, cv, Nat.zero_le _, rfl, rfl, ?_, ?_, HB2.out, HBX.out⟩
        · simp [rowG]
        · simpa [rowG] using HO2.out
      case round =>
        obtain ⟨k, V, cv, hk, hg, rfl, rfl, hown, hb, hbk⟩ := hrel
        have HGI := Lib.hid hg
        have HB := Lib.hid hb
        have HOWN := Lib.hid hown
        have HBK := Lib.hid hbk
        have hrl := rowG_len (rpairB l) l x k
        clear hg hb hown hbk HB2 HO2 HBX
        by_cases hkn : k < n
        · have hkl : k < l.length := by rw [HN.out]; exact hkn
          have hcr : ∀ j v, (rows l)[j]? = some v → wr.cell? ⟨b, o + j, none⟩ = some v := fun j v hj => by
            rw [HB.out.cell (p := ⟨b, o + j, none⟩) hbl]; exact HCC.out j v hj
          generalize hy : l.getD k Kall.none = y
          obtain ⟨c0, c1, c2, c3, c4, c5⟩ := kall_cells hcr hkl hy
          have HYES := Lib.hid (fun h => rowG_yes (q := rpairB l) (a := x) hkl h)
          have HNOO := Lib.hid (fun h => rowG_no (q := rpairB l) (a := x) hkl h)
          rw [hy] at HYES HNOO
          have hrn : (pl ++ rowG (rpairB l) l x k).length ≤ 2097152 := by rw [List.length_append]; omega
          clear hcr hy hkl
          have q3 : (0 : Int) ≤ (k : Int) := by omega
          have q4 : (k : Int) < (n : Int) := by omega
          have HNEXT : RowKit.Hid (∀ (fn : Nat) (w3 : World), (pl ++ rowG (rpairB l) l x k).length = fn → rpairB l x y = false → Below wr.heap.size wr w3 →
              ∃ (k' : Nat) (V' : Option Addr) (cv' : Nat), k' ≤ n ∧ n - (k + 1) = n - k' ∧ Value.int .i64 ((k : Int) + 1) = .int .i64 k' ∧ Value.slice V fn cv = .slice V' (pl ++ rowG (rpairB l) l x k').length cv' ∧ w3.ownsRow w1.heap.size 33 2 (.slice V' (pl ++ rowG (rpairB l) l x k').length cv') (pl ++ rowG (rpairB l) l x k').length (rows (pl ++ rowG (rpairB l) l x k')) ∧ Below w1.heap.size w1 w3 ∧ Blk w3 gb 88 x.cells) := Lib.hid (by
            intro fn w3 hfn hf hb3
            refine ⟨k + 1, V, cv, by omega, rfl, by go_num, ?_, ?_, HB.out.trans (hb3.mono HB.out.size), HBK.out.below hb3 HBK.out.lt⟩
            · rw [HNOO.out hf, hfn]
            · rw [HNOO.out hf]; exact own_below HOWN.out hb3)
          have HNE2 := Lib.hid (fun h => show pl ++ rowG (rpairB l) l x (k + 1) = (pl ++ rowG (rpairB l) l x k) ++ [⟨x.value, y.value⟩] by rw [HYES.out h, List.append_assoc])
          generalize hrr : pl ++ rowG (rpairB l) l x k = rl at *
          generalize hfn : rl.length = fn at *
          have HFN := Lib.hid hfn
          have HPB : RowKit.Hid (rpairB l x y = (sureB l x && sureB l y && (decide (0 < (takesS l y.value).length) && (decide (x.fin < y.beg) && !goneS l x.value (headK (takesS l y.value)).fin)))) := Lib.hid (by unfold rpairB; rw [pairB_head])
          clear hfn hrr
          have hBY : Below wr.heap.size wr (wr.alloc (rkbox y)) := (Below.refl _ _).alloc (Nat.le_refl _) _
          have HBY := Lib.hid hBY
          have HYK : RowKit.Hid (Blk (wr.alloc (rkbox y)) wr.heap.size 88 y.cells) := Lib.hid (Blk.new wr 88 y.cells)
          have HXK := Lib.hid (HBK.out.alloc (rkbox y))
          clear hBY
          go_upto_region 9 with (fail)
          clear c0 c1 c2 c3 c4 c5
          generalize wr.alloc (rkbox y) = wy at *
          obtain ⟨x0, x1, x2, x3, x4, x5⟩ := HXK.out.six
          have HSX := Lib.hid (HQ.out (some ⟨b, o, none⟩) cl x wy (HRD.out.below (HB.out.trans (HBY.out.mono (by have := HB.out.size; omega)))))
          cases hsx : sureB l x
          · rw [hsx] at HSX HPB
            go_wp2_with fail
            refine HSX.out.mono ?_
            rintro e w2 ⟨rfl, hb2⟩
            go_wp2
            go_roundg (n - (k + 1))
            case measure => rw [HGI.out]; omega
            case rel => exact HNEXT.out fn _ rfl (by rw [HPB.out]; simp) (HBY.out.trans (hb2.mono HBY.out.size))
          · rw [hsx] at HSX HPB
            go_wp2_with fail
            refine HSX.out.mono ?_
            rintro e w2 ⟨rfl, hb2⟩
            have hyk := HYK.out.below hb2 HYK.out.lt
            have hxk := HXK.out.below hb2 HXK.out.lt
            obtain ⟨y0, y1, y2, y3, y4, y5⟩ := hyk.six
            have HB2 := Lib.hid (HBY.out.trans (hb2.mono HBY.out.size))
            have HYK2 := Lib.hid hyk
            have HXK2 := Lib.hid hxk
            clear hyk hxk hb2 x0 x1 x2 x3 x4 x5 HYK HXK HBY HSX
            have HSY := Lib.hid (HQ.out (some ⟨b, o, none⟩) cl y w2 (HRD.out.below (HB.out.trans (HB2.out.mono (by have := HB.out.size; omega)))))
            cases hsy : sureB l y
            · rw [hsy] at HSY HPB
              go_wp2_with fail
              refine HSY.out.mono ?_
              rintro e w3 ⟨rfl, hb3⟩
              go_wp2
              go_roundg (n - (k + 1))
              case measure => rw [HGI.out]; omega
              case rel => exact HNEXT.out fn _ rfl (by rw [HPB.out]; simp) (HB2.out.trans (hb3.mono HB2.out.size))
            · rw [hsy] at HSY HPB
              go_wp2_with fail
              refine HSY.out.mono ?_
              rintro e w3 ⟨rfl, hb3⟩
              have hyk := HYK2.out.below hb3 HYK2.out.lt
              have hxk := HXK2.out.below hb3 HXK2.out.lt
              obtain ⟨v0, _, _, _, v4, _⟩ := hyk.six
              obtain ⟨_, x1, _, _, x4, _⟩ := hxk.six
              have HB3 := Lib.hid (HB2.out.trans (hb3.mono HB2.out.size))
              have HYK3 := Lib.hid hyk
              have HXK3 := Lib.hid hxk
              clear hyk hxk hb3 y0 y1 y2 y3 y4 y5 HYK2 HXK2 HB2 HSY
              by_cases hfb : x.fin < y.beg
              · have t1 : ¬ (y.beg ≤ x.fin) := by omega
                have t2 : decide (y.beg ≤ x.fin) = false := by simpa using hfb
                rw [show decide (x.fin < y.beg) = true by simpa using hfb] at HPB
                go_wp2_with fail
                refine (HT.out (some ⟨b, o, none⟩) cl y.value _ (HRD.out.below (HB.out.trans (HB3.out.mono (by have := HB.out.size; omega))))).mono ?_
                rintro e w4 ⟨rfl, hb4⟩
                generalize headK (takesS l y.value) = hd at *
                generalize (takesS l y.value).length = tn at *
                have HB4 := Lib.hid ((HB3.out.trans (hb4.mono HB3.out.size)).alloc (Nat.le_trans HB3.out.size hb4.size) (rkbox hd))
                have hyk := (HYK3.out.below hb4 HYK3.out.lt).alloc (rkbox hd)
                have hxk := (HXK3.out.below hb4 HXK3.out.lt).alloc (rkbox hd)
                have htk : Blk (w4.alloc (rkbox hd)) w4.heap.size 88 hd.cells := Blk.new w4 88 hd.cells
                obtain ⟨v0, _, _, _, v4, _⟩ := hyk.six
                obtain ⟨_, x1, _, _, x4, _⟩ := hxk.six
                have HYK4 := Lib.hid hyk
                have HXK4 := Lib.hid hxk
                have HTK := Lib.hid htk
                clear hyk hxk hb4 htk HYK3 HXK3 HB3
                by_cases htn : 0 < tn
                · have t3 : (0 : Int) < (tn : Int) := by omega
                  have t4 : decide (0 < tn) = true := by simpa using htn
                  rw [t4] at HPB
                  have HGG := Lib.hid (HGN.out (some ⟨b, o, none⟩) cl x.value hd.fin (w4.alloc (rkbox hd)) (HRD.out.below (HB.out.trans (HB4.out.mono (by have := HB.out.size; omega)))))
                  cases hgn : goneS l x.value hd.fin
                  · rw [hgn] at HPB HGG
                    have HE := Lib.hid (HNE2.out (by rw [HPB.out]; rfl))
                    go_wp2_with fail
                    refine HGG.out.mono ?_
                    rintro e w5 ⟨rfl, hb5⟩
                    have hyk := HYK4.out.below hb5 HYK4.out.lt
                    have hxk := HXK4.out.below hb5 HXK4.out.lt
                    obtain ⟨_, _, _, _, v4, _⟩ := hyk.six
                    obtain ⟨_, _, _, _, x4, _⟩ := hxk.six
                    have HXK5 := Lib.hid hxk
                    have HB5 := Lib.hid (HB4.out.trans (hb5.mono HB4.out.size))
                    have HB5' := Lib.hid (HB.out.trans (HB5.out.mono (by have := HB.out.size; omega)))
                    have HO5 := Lib.hid (own_below HOWN.out HB5.out)
                    clear hb5 hyk hxk HYK4 HXK4 HB4
                    go_wp2_with (at_builtin; refine wpList_app rfl (.tmp 60) (.tmp 66) 30 33 rfl w1.heap.size (prV Pr.none) 2 16 Try.underlying30 Pr_info rfl (by decide) V fn cv (rows rl) rfl (HO5.out.alloc _) (some ⟨w5.heap.size, 0, none⟩) 1 1 (rows [(⟨x.value, y.value⟩ : Pr)]) rfl (by simp) rfl (blk_new rfl).rd (rows_one _) (fn + 1) rfl (rows (rl ++ [(⟨x.value, y.value⟩ : Pr)])) (rows_append _ _).symm (by unfold maxLen; omega) (by omega) (Nat.le_trans HB5'.out.size (by simp)) ?_; intro V3 cv3 w6 hown3 hg3 hb6)
                    go_roundg (n - (k + 1))
                    case measure => rw [HGI.out]; omega
                    case rel =>
                      have e := HE.out
                      refine ⟨k + 1, V3, cv3, by omega, rfl, by go_num, ?_, ?_, (HB5'.out.alloc HB5'.out.size _).trans hb6, ?_⟩
                      · rw [e]; simp [HFN.out]
                      · rw [e]
                        simp only [List.length_append, List.length_cons, List.length_nil, HFN.out]
                        exact hown3
                      · exact blk_grown (HXK5.out.alloc _) hg3 (own_blk_ne (HO5.out.alloc (kbox x)) (HXK5.out.alloc (kbox x)) (by decide))
                  · rw [hgn] at HPB HGG
                    go_wp2_with fail
                    refine HGG.out.mono ?_
                    rintro e w5 ⟨rfl, hb5⟩
                    go_wp2
                    go_roundg (n - (k + 1))
                    case measure => rw [HGI.out]; omega
                    case rel => exact HNEXT.out fn _ rfl (by rw [HPB.out]; simp) (HB4.out.trans (hb5.mono HB4.out.size))
                · have t3 : ¬ (0 : Int) < (tn : Int) := by omega
                  have t4 : decide (0 < tn) = false := by simpa using htn
                  rw [t4] at HPB
                  go_wp2
                  go_roundg (n - (k + 1))
                  case measure => rw [HGI.out]; omega
                  case rel => exact HNEXT.out fn _ rfl (by rw [HPB.out]; simp) HB4.out
              · have t1 : y.beg ≤ x.fin := by omega
                have t2 : decide (y.beg ≤ x.fin) = true := by simpa using t1
                rw [show decide (x.fin < y.beg) = false by simpa using t1] at HPB
                go_wp2
                go_roundg (n - (k + 1))
                case measure => rw [HGI.out]; omega
                case rel => exact HNEXT.out fn _ rfl (by rw [HPB.out]; simp) HB3.out
        · obtain rfl : k = n := by omega
          rw [← HSTEP.out] at HOWN ⊢
          generalize hfn : (allG (rpairB l) l (i + 1)).length = fn at *
          go_wp2
          go_roundg (k - (i + 1))
          case measure => rw [HG.out]; omega
          case rel => exact ⟨i + 1, V, cv, by omega, rfl, by go_num, by rw [hfn], by rw [hfn]; exact HOWN.out, HB.out⟩
    · obtain rfl : i = n := by omega
      generalize hfn : (allG (rpairB l) l i).length = fn at *
      have HLE := own_le HOWN.out
      have HNO := Lib.hid (fun h => (own_none HOWN.out h).2.1)
      go_wp2
      go_ret
      refine ⟨V, cv, ?_, ?_, ?_, HNO.out, HB1.out.trans (HB.out.mono HB1.out.size)⟩
      · rw [HPS.out, hfn]; rfl
      · rw [HPS.out]; exact own_rd HOWN.out
      · rw [HPS.out, hfn]; exact HLE

end Go.Proofs.Ytmllbailfbjoeaa
