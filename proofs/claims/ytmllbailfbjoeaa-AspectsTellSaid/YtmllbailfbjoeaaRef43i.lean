/- The document's Fresh. -/
import Derived.Test.YtmllbailfbjoeaaPlain43b
namespace Go.Proofs.Ytmllbailfbjoeaa
open Go.RowKit Go.Sort

theorem rfreshTo_step (l : List Kall) {k : Nat} {x : Kall} (hx : l.getD k Kall.none = x) : freshTo l (k + 1) = if rfreshB l (freshTo l k) x = true then freshTo l k ++ [x.value] else freshTo l k := by
  rw [freshTo, hx, rfresh_same]

/-- The document's first loop at a take: has a call put the value ahead of its end? -/
def aheadB (x p : Kall) : Bool := p.put && p.value == x.value && decide (p.beg < x.fin)

theorem any_take {α : Type} {q : α → Bool} {d : α} {l : List α} {k : Nat} (h : k < l.length) : (l.take (k + 1)).any q = ((l.take k).any q || q (l.getD k d)) := by
  rw [take_succ_getD l d k h, List.any_append]; simp

set_option maxHeartbeats 8000000 in
set_option maxRecDepth 100000 in
theorem rFresh_any (A : Option Addr) (c : Nat) (ns : List Nte) (w : World) (hl : ns.length ≤ 1048576) (hR : Rd w A (rows ns)) :
    Calls Try.prog 28 #[.slice A ns.length c] w (RetIntsO (freshS (callsS ns)) w) := by
  have HC := Lib.hid (rCalls_any A c ns w hl hR)
  rw [← calls_same] at HC
  have hcl := calls_len ns
  clear hR
  generalize ns.length = nn at *
  generalize callsS ns = l at *
  have HFL := Lib.hid (freshTo_len l)
  have HFS : RowKit.Hid (freshS l = freshTo l l.length) := Lib.hid rfl
  generalize hn : l.length = n at *
  have HN := Lib.hid hn
  clear hn
  go_enter Try.func28, Try.ntmps28
  go_wp2_with fail
  refine HC.out.mono ?_
  rintro e w1 ⟨L, cl, rfl, hrd, _, _, hb1⟩
  rw [HN.out]
  have HRD := Lib.hid hrd
  have HB1 := Lib.hid hb1
  clear hrd hb1
  go_wp2
  go_loopg [4, 16] n (fun g v i wr => ∃ (k : Nat) (V : Option Addr) (cv : Nat), k ≤ n ∧ g = n - k ∧ i = .int .i64 k ∧ v = .slice V (freshTo l k).length cv ∧ wr.ownsRow w1.heap.size 3 1 (.slice V (freshTo l k).length cv) (freshTo l k).length (ints (freshTo l k)) ∧ Below w1.heap.size w1 wr)
  case atStart => exact ⟨0, none, 0, Nat.zero_le _, rfl, rfl, rfl, own_nil _ _ _ _, Below.refl _ _⟩
  case round =>
    obtain ⟨k, V, cv, hk, hg, rfl, rfl, hown, hb⟩ := hrel
    have HG := Lib.hid hg
    have HB := Lib.hid hb
    have HOWN := Lib.hid hown
    have hfl := HFL.out k
    clear hg hb hown
    by_cases hlt : k < n
    · have hkl : k < l.length := by rw [HN.out]; exact hlt
      obtain ⟨b, o, rfl, hbl, hc⟩ := HRD.out.at_ (by rw [rows_length]; exact Nat.mul_pos (by omega) (by decide))
      have HCC := Lib.hid hc
      have hcr : ∀ j v, (rows l)[j]? = some v → wr.cell? ⟨b, o + j, none⟩ = some v := fun j v hj => by
        rw [HB.out.cell (p := ⟨b, o + j, none⟩) hbl]; exact hc j v hj
      generalize hx : l.getD k Kall.none = x
      obtain ⟨c0, c1, c2, c3, c4, c5⟩ := kall_cells hcr hkl hx
      have HST := Lib.hid (rfreshTo_step l hx)
      clear hc hcr hx hkl
      generalize freshTo l k = fl at *
      have HSO : RowKit.Hid (rfreshB l fl x = ((!x.put && doneB x && !l.any (aheadB x)) && !fl.any (fun v => v == x.value))) := Lib.hid rfl
      generalize hfn : fl.length = fn at *
      have HFN := Lib.hid hfn
      clear hfn
      have q1 : (0 : Int) ≤ (k : Int) := by omega
      have q2 : (k : Int) < (n : Int) := by omega
      have HBX : RowKit.Hid (Blk (wr.alloc (rkbox x)) wr.heap.size 88 x.cells) := Lib.hid (Blk.new wr 88 x.cells)
      have HB2 := Lib.hid (HB.out.alloc HB.out.size (rkbox x))
      have HO2 := Lib.hid (HOWN.out.alloc (rkbox x))
      go_upto_region 6 with (fail)
      clear c0 c1 c2 c3 c4 c5 HB HOWN
      generalize wr.alloc (rkbox x) = wo at *
      generalize wr.heap.size = gb at *
      go_cut [7] (fun s7 wc => s7 = .bool (!x.put && doneB x) ∧ wc.ownsRow w1.heap.size 3 1 (.slice V fn cv) fn (ints fl) ∧ Below w1.heap.size w1 wc ∧ Blk wc gb 88 x.cells)
      case first =>
        have b0 := HBX.out.cell (i := 0) rfl
        have b1 := HBX.out.cell (i := 1) rfl
        have b2 := HBX.out.cell (i := 2) rfl
        have b3 := HBX.out.cell (i := 3) rfl
        have b4 := HBX.out.cell (i := 4) rfl
        have b5 := HBX.out.cell (i := 5) rfl
        cases hp : x.put
        · rw [hp] at b3
          have HD := Lib.hid (rwell_any ⟨x.beg, x.fin, x.opn, false, x.value, x.code⟩ wo)
          have hde : doneB ⟨x.beg, x.fin, x.opn, false, x.value, x.code⟩ = doneB x := rfl
          rw [hde] at HD
          clear hde
          go_wp2_with fail
          refine HD.out.mono ?_
          rintro e w2 ⟨rfl, hb2⟩
          go_wp2_with fail
          go_meet
          exact ⟨by simp [hp], own_below HO2.out hb2, HB2.out.trans (hb2.mono HB2.out.size), HBX.out.below hb2 HBX.out.lt⟩
        · rw [hp] at b3
          go_wp2_with fail
          go_meet
          exact ⟨by simp [hp], HO2.out, HB2.out, HBX.out⟩
      case rest =>
        obtain ⟨rfl, hown, hb, hbk⟩ := hcut
        have HB := Lib.hid hb
        have HOWN := Lib.hid hown
        have HBK := Lib.hid hbk
        clear hown hb hbk HB2 HO2 HBX
        generalize hb0 : (!x.put && doneB x) = bb at *
        have HB0 := Lib.hid hb0
        clear hb0
        go_wp2
        go_loopg [7, 29] n (fun g s7 j wi => ∃ (k : Nat), k ≤ n ∧ g = n - k ∧ j = .int .i64 k ∧ s7 = .bool (bb && !(l.take k).any (aheadB x)) ∧ wi.ownsRow w1.heap.size 3 1 (.slice V fn cv) fn (ints fl) ∧ Below w1.heap.size w1 wi ∧ Blk wi gb 88 x.cells)
        case atStart => exact ⟨0, Nat.zero_le _, rfl, rfl, by simp, HOWN.out, HB.out, HBK.out⟩
        case round =>
          obtain ⟨j, hj, hg, rfl, rfl, hown, hb, hbk⟩ := hrel
          have HGI := Lib.hid hg
          have HB := Lib.hid hb
          have HOWN := Lib.hid hown
          have HBK := Lib.hid hbk
          clear hg hb hown hbk
          by_cases hjn : j < n
          · have hjl : j < l.length := by rw [HN.out]; exact hjn
            have hcr : ∀ i v, (rows l)[i]? = some v → wr.cell? ⟨b, o + i, none⟩ = some v := fun i v hi => by
              rw [HB.out.cell (p := ⟨b, o + i, none⟩) hbl]; exact HCC.out i v hi
            have HAN := Lib.hid (any_take (q := aheadB x) (d := Kall.none) hjl)
            generalize hy : l.getD j Kall.none = y at *
            obtain ⟨c0, c1, c2, c3, c4, c5⟩ := kall_cells hcr hjl hy
            clear hcr hy hjl
            generalize (l.take j).any (aheadB x) = an at *
            have q3 : (0 : Int) ≤ (j : Int) := by omega
            have q4 : (j : Int) < (n : Int) := by omega
            have x1 : wr.cell? ⟨gb, 1, none⟩ = some (.int .i64 x.fin) := HBK.out.cell rfl
            have x4 : wr.cell? ⟨gb, 4, none⟩ = some (.int .i64 x.value) := HBK.out.cell rfl
            have hgl : gb < wr.heap.size := HBK.out.lt
            have hne : ¬ gb = wr.heap.size := by omega
            have HNX : RowKit.Hid (∀ (ob : Obj) (v : Bool), v = (bb && !(an || aheadB x y)) → ∃ (k : Nat), k ≤ n ∧ n - (j + 1) = n - k ∧ Value.int .i64 ((j : Int) + 1) = .int .i64 k ∧ Value.bool v = .bool (bb && !(l.take k).any (aheadB x)) ∧ (wr.alloc ob).ownsRow w1.heap.size 3 1 (.slice V fn cv) fn (ints fl) ∧ Below w1.heap.size w1 (wr.alloc ob) ∧ Blk (wr.alloc ob) gb 88 x.cells) := Lib.hid (fun ob v hv => ⟨j + 1, by omega, rfl, by go_num, by rw [HAN.out, hv], HOWN.out.alloc _, HB.out.alloc HB.out.size _, HBK.out.alloc _⟩)
            have HAH : RowKit.Hid (aheadB x y = (y.put && y.value == x.value && decide (y.beg < x.fin))) := Lib.hid rfl
            cases hp : y.put
            · rw [hp] at c3 HAH
              go_wp2
              go_roundg (n - (j + 1))
              case measure => rw [HGI.out]; omega
              case rel => exact HNX.out _ (bb && !an) (by rw [HAH.out]; simp)
            · rw [hp] at c3 HAH
              cases hv : (y.value == x.value)
              · rw [hv] at HAH
                go_wp2
                go_roundg (n - (j + 1))
                case measure => rw [HGI.out]; omega
                case rel => exact HNX.out _ (bb && !an) (by rw [HAH.out]; simp)
              · rw [hv] at HAH
                by_cases hlt2 : y.beg < x.fin
                · have t1 : decide (y.beg < x.fin) = true := by simpa using hlt2
                  rw [t1] at HAH
                  go_wp2
                  go_roundg (n - (j + 1))
                  case measure => rw [HGI.out]; omega
                  case rel => exact HNX.out _ false (by rw [HAH.out]; simp)
                · have t1 : decide (y.beg < x.fin) = false := by simpa using hlt2
                  rw [t1] at HAH
                  go_wp2
                  go_roundg (n - (j + 1))
                  case measure => rw [HGI.out]; omega
                  case rel => exact HNX.out _ (bb && !an) (by rw [HAH.out]; simp)
          · obtain rfl : j = n := by omega
            rw [List.take_of_length_le (by rw [HN.out]; omega)]
            generalize hb2 : (bb && !l.any (aheadB x)) = b2 at *
            have HB2 := Lib.hid hb2
            clear hb2 hjn hj
            go_wp2
            go_loopg [7, 52] fn (fun g s7 i wi => ∃ (m : Nat), m ≤ fn ∧ g = fn - m ∧ i = .int .i64 m ∧ s7 = .bool (b2 && !(fl.take m).any (fun v => v == x.value)) ∧ wi = wr)
            case atStart => exact ⟨0, Nat.zero_le _, rfl, rfl, by simp, rfl⟩
            case round =>
              obtain ⟨m, hm, hg, rfl, rfl, rfl⟩ := hrel
              have HGV := Lib.hid hg
              clear hg
              by_cases hmn : m < fn
              · have hml : m < fl.length := by rw [HFN.out]; exact hmn
                obtain ⟨bv, ov, rfl, hbv, hcv⟩ := (own_rd HOWN.out).at_ (by rw [ints_length]; omega)
                have x0 := hcv m _ (ints_at hml)
                have HAN := Lib.hid (any_take (q := fun v => v == x.value) (d := 0) hml)
                generalize fl.getD m 0 = z at *
                have x4 : wr.cell? ⟨gb, 4, none⟩ = some (.int .i64 x.value) := HBK.out.cell rfl
                clear hcv hml
                generalize (fl.take m).any (fun v => v == x.value) = an at *
                have q3 : (0 : Int) ≤ (m : Int) := by omega
                have q4 : (m : Int) < (fn : Int) := by omega
                cases hv : (z == x.value)
                all_goals
                  rw [hv] at HAN
                  go_wp2
                  go_roundg (fn - (m + 1))
                  case measure => rw [HGV.out]; omega
                  case rel => exact ⟨m + 1, by omega, rfl, by go_num, by rw [HAN.out]; simp, rfl⟩
              · obtain rfl : m = fn := by omega
                rw [List.take_of_length_le (by rw [HFN.out]; omega)]
                have HSO2 := Lib.hid (HSO.out)
                have x4 : wr.cell? ⟨gb, 4, none⟩ = some (.int .i64 x.value) := HBK.out.cell rfl
                cases hfb : rfreshB l fl x
                · rw [hfb] at HSO2 HST
                  simp only [Bool.false_eq_true, if_false] at HST
                  rw [← HSO2.out]
                  go_wp2
                  go_roundg (j - (k + 1))
                  case measure => rw [HG.out]; omega
                  case rel =>
                    refine ⟨k + 1, V, cv, by omega, rfl, by go_num, ?_, ?_, HB.out⟩
                    · rw [HST.out, HFN.out]
                    · rw [HST.out, HFN.out]; exact HOWN.out
                · rw [hfb] at HSO2 HST
                  simp only [if_true] at HST
                  rw [← HSO2.out]
                  go_wp2_with (at_builtin; refine wpList_app rfl (.tmp 62) (.tmp 65) 22 3 rfl w1.heap.size (.int .i64 0) 1 8 Try.underlying22 int_info rfl (by decide) V m cv (ints fl) rfl (HOWN.out.alloc _) (some ⟨wr.heap.size, 0, none⟩) 1 1 (ints [x.value]) rfl (by simp) rfl (blk_new rfl).rd (ints_one _) (m + 1) rfl (ints (fl ++ [x.value])) (by simp [ints]) (by unfold maxLen; omega) (by omega) (Nat.le_trans HB.out.size (by simp)) ?_; intro V3 cv3 w6 hown3 hg3 hb3)
                  go_roundg (j - (k + 1))
                  case measure => rw [HG.out]; omega
                  case rel =>
                    refine ⟨k + 1, V3, cv3, by omega, rfl, by go_num, ?_, ?_, (HB.out.alloc HB.out.size _).trans hb3⟩
                    · rw [HST.out]; simp [HFN.out]
                    · rw [HST.out]
                      simp only [List.length_append, List.length_cons, List.length_nil, HFN.out]
                      exact hown3
    · obtain rfl : k = n := by omega
      generalize hfn : (freshTo l k).length = fn at *
      go_wp2
      go_ret
      refine ⟨V, cv, ?_, ?_, HB1.out.trans (HB.out.mono HB1.out.size)⟩
      · rw [HFS.out, hfn]; rfl
      · rw [HFS.out, hfn]; exact own_lower HOWN.out HB1.out.size

end Go.Proofs.Ytmllbailfbjoeaa
