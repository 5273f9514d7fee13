/- The document's Under. -/
import Derived.Test.YtmllbailfbjoeaaRef43f
import Derived.Test.YtmllbailfbjoeaaAsp7
namespace Go.Proofs.Ytmllbailfbjoeaa
open Go.RowKit Go.Sort

def rundB (l : List Kall) (x : Kall) : Bool := sureB l x && decide ((takesS l x.value).length = 0)
def runderS (l : List Kall) : List Int := (l.filter (rundB l)).map Kall.value

set_option maxHeartbeats 4000000 in
set_option maxRecDepth 100000 in
theorem rUnder_any (A : Option Addr) (c : Nat) (ns : List Nte) (w : World) (hl : ns.length ≤ 1048576) (hR : Rd w A (rows ns)) :
    Calls Try.prog 42 #[.slice A ns.length c] w (RetIntsO (runderS (callsS ns)) w) := by
  have HC := Lib.hid (rCalls_any A c ns w hl hR)
  rw [← calls_same] at HC
  have hcl := calls_len ns
  clear hR
  generalize ns.length = nn at *
  generalize callsS ns = l at *
  have HP := Lib.hid (fun A1 c1 v W h => took_any A1 c1 l v W (by omega) h)
  have HQ := Lib.hid (fun A1 c1 x W h => rsure_any A1 c1 l x W (by omega) h)
  generalize hn : l.length = n at *
  have HN := Lib.hid hn
  clear hn
  go_enter Try.func42, Try.ntmps42
  go_wp2_with fail
  refine HC.out.mono ?_
  rintro e w1 ⟨L, cl, rfl, hrd, _, _, hb1⟩
  rw [HN.out]
  have HRD := Lib.hid hrd
  have HB1 := Lib.hid hb1
  clear hrd hb1
  go_wp2
  go_loopg [4, 13] n (fun g v i wr => ∃ (k : Nat) (V : Option Addr) (cv : Nat), k ≤ n ∧ g = n - k ∧ i = .int .i64 k ∧ v = .slice V ((l.take k).filter (rundB l)).length cv ∧ wr.ownsRow w1.heap.size 3 1 (.slice V ((l.take k).filter (rundB l)).length cv) ((l.take k).filter (rundB l)).length (ints (((l.take k).filter (rundB l)).map Kall.value)) ∧ Below w1.heap.size w1 wr)
  case atStart => exact ⟨0, none, 0, Nat.zero_le _, rfl, rfl, rfl, own_nil _ _ _ _, Below.refl _ _⟩
  case round =>
    obtain ⟨k, V, cv, hk, hg, rfl, rfl, hown, hb⟩ := hrel
    have HG := Lib.hid hg
    have HB := Lib.hid hb
    have HOWN := Lib.hid hown
    have hfl := ints_len_filter l (rundB l) k
    clear hg hb hown
    by_cases hlt : k < n
    · have hkl : k < l.length := by rw [HN.out]; exact hlt
      obtain ⟨b, o, rfl, hbl, hc⟩ := HRD.out.at_ (by rw [rows_length]; exact Nat.mul_pos (by omega) (by decide))
      have hcr : ∀ j v, (rows l)[j]? = some v → wr.cell? ⟨b, o + j, none⟩ = some v := fun j v hj => by
        rw [HB.out.cell (p := ⟨b, o + j, none⟩) hbl]; exact hc j v hj
      generalize hx : l.getD k Kall.none = x
      obtain ⟨c0, c1, c2, c3, c4, c5⟩ := kall_cells hcr hkl hx
      have HSO : RowKit.Hid (rundB l x = (sureB l x && decide ((takesS l x.value).length = 0))) := Lib.hid rfl
      have HYES := Lib.hid (fun h => filter_take_yes (p := rundB l) (d := Kall.none) hkl h)
      have HNOO := Lib.hid (fun h => filter_take_no (p := rundB l) (d := Kall.none) hkl h)
      rw [hx] at HYES HNOO
      clear hc hcr hx hkl
      generalize (l.take k).filter (rundB l) = fl at *
      generalize hfn : fl.length = fn at *
      have HFN := Lib.hid hfn
      clear hfn
      have q1 : (0 : Int) ≤ (k : Int) := by omega
      have q2 : (k : Int) < (n : Int) := by omega
      go_wp2_with fail
      refine (HP.out (some ⟨b, o, none⟩) cl x.value _ ((HRD.out.below HB.out).alloc _)).mono ?_
      rintro e w2 ⟨rfl, hb2⟩
      have h2k : Blk w2 wr.heap.size 88 x.cells := (Blk.new wr 88 x.cells).below hb2 (by simp)
      have HB2 := Lib.hid ((HB.out.alloc HB.out.size (rkbox x)).trans (hb2.mono (by have := HB.out.size; simp; omega)))
      have HO2 := Lib.hid (own_below (HOWN.out.alloc _) hb2)
      generalize headK (takesS l x.value) = hd
      generalize htn : (takesS l x.value).length = tn at *
      have h3k : Blk (w2.alloc (rkbox hd)) wr.heap.size 88 x.cells := h2k.alloc _
      have y0 : (w2.alloc (rkbox hd)).cell? ⟨wr.heap.size, 0, none⟩ = some (.int .i64 x.beg) := h3k.cell rfl
      have y1 : (w2.alloc (rkbox hd)).cell? ⟨wr.heap.size, 1, none⟩ = some (.int .i64 x.fin) := h3k.cell rfl
      have y2 : (w2.alloc (rkbox hd)).cell? ⟨wr.heap.size, 2, none⟩ = some (.bool x.opn) := h3k.cell rfl
      have y3 : (w2.alloc (rkbox hd)).cell? ⟨wr.heap.size, 3, none⟩ = some (.bool x.put) := h3k.cell rfl
      have y4 : (w2.alloc (rkbox hd)).cell? ⟨wr.heap.size, 4, none⟩ = some (.int .i64 x.value) := h3k.cell rfl
      have y5 : (w2.alloc (rkbox hd)).cell? ⟨wr.heap.size, 5, none⟩ = some (.int .i64 x.code) := h3k.cell rfl
      have hgl : wr.heap.size < w2.heap.size := h2k.lt
      have HB3 := Lib.hid (HB2.out.alloc HB2.out.size (rkbox hd))
      have HO3 := Lib.hid (HO2.out.alloc (rkbox hd))
      have HTN := Lib.hid htn
      have H3K := Lib.hid h3k
      clear hb2 h2k htn c0 c1 c2 c3 c4 c5 h3k
      go_wp2_with fail
      refine (HQ.out (some ⟨b, o, none⟩) cl x _ (HRD.out.below HB3.out)).mono ?_
      rintro e w4 ⟨rfl, hb4⟩
      have z4 : w4.cell? ⟨wr.heap.size, 4, none⟩ = some (.int .i64 x.value) := by rw [hb4.cell (p := ⟨wr.heap.size, 4, none⟩) (by simp; omega)]; exact y4
      have HB4 := Lib.hid (HB3.out.trans (hb4.mono HB3.out.size))
      have HO4 := Lib.hid (own_below HO3.out hb4)
      clear hb4 y0 y1 y2 y3 y4 y5
      have HNEXT : RowKit.Hid (rundB l x = false → ∃ (k' : Nat) (V' : Option Addr) (cv' : Nat), k' ≤ n ∧ n - (k + 1) = n - k' ∧ Value.int .i64 ((k : Int) + 1) = .int .i64 k' ∧ Value.slice V fn cv = .slice V' ((l.take k').filter (rundB l)).length cv' ∧ w4.ownsRow w1.heap.size 3 1 (.slice V' ((l.take k').filter (rundB l)).length cv') ((l.take k').filter (rundB l)).length (ints (((l.take k').filter (rundB l)).map Kall.value)) ∧ Below w1.heap.size w1 w4) := Lib.hid (by
        intro hf
        exact ⟨k + 1, V, cv, by omega, rfl, by go_num, by rw [HNOO.out hf, HFN.out], by rw [HNOO.out hf, HFN.out]; exact HO4.out, HB4.out⟩)
      cases hs : sureB l x
      · have HF := Lib.hid (show rundB l x = false by rw [HSO.out, hs]; rfl)
        go_wp2
        go_roundg (n - (k + 1))
        case measure => rw [HG.out]; omega
        case rel => exact HNEXT.out HF.out
      · by_cases h1 : tn = 0
        · have t1 : ((tn : Int) == 0) = true := by simp [h1]
          have HE := Lib.hid (HYES.out (show rundB l x = true by rw [HSO.out, hs, h1]; rfl))
          clear h1
          go_wp2_with (at_builtin; refine wpList_app rfl (.tmp 31) (.tmp 34) 22 3 rfl w1.heap.size (.int .i64 0) 1 8 Try.underlying22 int_info rfl (by decide) V fn cv (ints (fl.map Kall.value)) rfl (HO4.out.alloc _) (some ⟨w4.heap.size, 0, none⟩) 1 1 (ints [x.value]) rfl (by simp) rfl (blk_new rfl).rd (ints_one _) (fn + 1) rfl (ints (fl.map Kall.value ++ [x.value])) (by simp [ints]) (by unfold maxLen; omega) (by omega) (Nat.le_trans HB4.out.size (by simp)) ?_; intro V3 cv3 w6 hown3 hg3 hb3)
          go_roundg (n - (k + 1))
          case measure => rw [HG.out]; omega
          case rel =>
            refine ⟨k + 1, V3, cv3, by omega, rfl, by go_num, ?_, ?_, (HB4.out.alloc HB4.out.size _).trans hb3⟩
            · rw [HE.out]; simp [HFN.out]
            · rw [HE.out]
              simp only [List.map_append, List.map_cons, List.map_nil, List.length_append, List.length_cons, List.length_nil, HFN.out]
              exact hown3
        · have t1 : ((tn : Int) == 0) = false := by simp; omega
          have HF := Lib.hid (show rundB l x = false by rw [HSO.out, hs]; simpa using h1)
          clear h1
          go_wp2
          go_roundg (n - (k + 1))
          case measure => rw [HG.out]; omega
          case rel => exact HNEXT.out HF.out
    · obtain rfl : k = n := by omega
      rw [List.take_of_length_le (by rw [HN.out]; omega)] at HOWN ⊢
      have HV := Lib.hid (show (runderS l).length = (l.filter (rundB l)).length by simp [runderS])
      generalize hfn : (l.filter (rundB l)).length = fn at *
      go_wp2
      go_ret
      refine ⟨V, cv, ?_, ?_, HB1.out.trans (HB.out.mono HB1.out.size)⟩
      · rw [HV.out]; rfl
      · rw [HV.out]; exact own_lower HOWN.out HB1.out.size

end Go.Proofs.Ytmllbailfbjoeaa
