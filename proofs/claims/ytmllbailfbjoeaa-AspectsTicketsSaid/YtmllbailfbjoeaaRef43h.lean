/- The document's Twice. -/
import Derived.Test.YtmllbailfbjoeaaRef43g
namespace Go.Proofs.Ytmllbailfbjoeaa
open Go.RowKit Go.Sort

def moreB (l : List Kall) (v : Int) : Bool := !decide (((takesS l v).length : Int) < 2)

set_option maxHeartbeats 4000000 in
set_option maxRecDepth 100000 in
theorem rTwice_any (A : Option Addr) (c : Nat) (ns : List Nte) (w : World) (hl : ns.length ≤ 1048576) (hR : Rd w A (rows ns)) :
    Calls Try.prog 29 #[.slice A ns.length c] w (RetIntsO (twiceS (callsS ns)) w) := by
  have HC := Lib.hid (rCalls_any A c ns w hl hR)
  rw [← calls_same] at HC
  have HVA := Lib.hid (fun W h => rValues_any A c ns W hl h)
  have HR := Lib.hid hR
  have hcl := calls_len ns
  clear hR
  generalize ns.length = nn at *
  generalize callsS ns = l at *
  have hvl := values_len l
  have HP := Lib.hid (fun A1 c1 v W h => took_any A1 c1 l v W (by omega) h)
  have HTW : RowKit.Hid (twiceS l = (valuesS l).filter (moreB l)) := Lib.hid rfl
  generalize hcn : l.length = cn at *
  have HCN := Lib.hid hcn
  clear hcn
  go_enter Try.func29, Try.ntmps29
  go_wp2_with fail
  refine HC.out.mono ?_
  rintro e w0 ⟨L, cl, rfl, hrd, _, _, hb0⟩
  rw [HCN.out]
  have HB0 := Lib.hid hb0
  have HRL0 := Lib.hid hrd
  clear hrd hb0
  go_wp2_with fail
  refine (HVA.out _ (HR.out.below HB0.out)).mono ?_
  generalize valuesS l = vs at *
  rintro e w1 ⟨VA, cva, rfl, hown0, hb1⟩
  have HRD := Lib.hid (own_rd hown0)
  have HRL := Lib.hid (HRL0.out.below hb1)
  have HB1 := Lib.hid (HB0.out.trans (hb1.mono HB0.out.size))
  clear hown0 hb1
  generalize hn : vs.length = n at *
  have HN := Lib.hid hn
  clear hn
  go_wp2
  go_loopg [4, 14] n (fun g v i wr => ∃ (k : Nat) (V : Option Addr) (cv : Nat), k ≤ n ∧ g = n - k ∧ i = .int .i64 k ∧ v = .slice V ((vs.take k).filter (moreB l)).length cv ∧ wr.ownsRow w1.heap.size 3 1 (.slice V ((vs.take k).filter (moreB l)).length cv) ((vs.take k).filter (moreB l)).length (ints ((vs.take k).filter (moreB l))) ∧ Below w1.heap.size w1 wr)
  case atStart => exact ⟨0, none, 0, Nat.zero_le _, rfl, rfl, rfl, own_nil _ _ _ _, Below.refl _ _⟩
  case round =>
    obtain ⟨k, V, cv, hk, hg, rfl, rfl, hown, hb⟩ := hrel
    have HG := Lib.hid hg
    have HB := Lib.hid hb
    have HOWN := Lib.hid hown
    have hfl := ints_len_filter vs (moreB l) k
    clear hg hb hown
    by_cases hlt : k < n
    · have hkl : k < vs.length := by rw [HN.out]; exact hlt
      obtain ⟨b, o, rfl, hbl, hc⟩ := HRD.out.at_ (by rw [ints_length]; omega)
      have c0 := hc k _ (ints_at hkl)
      rw [← HB.out.cell (p := ⟨b, o + k, none⟩) hbl] at c0
      generalize hx : vs.getD k 0 = x at *
      have HSO : RowKit.Hid (moreB l x = !decide (((takesS l x).length : Int) < 2)) := Lib.hid rfl
      have HYES := Lib.hid (fun h => filter_take_yes (p := moreB l) (d := 0) hkl h)
      have HNOO := Lib.hid (fun h => filter_take_no (p := moreB l) (d := 0) hkl h)
      rw [hx] at HYES HNOO
      clear hc hx hkl
      generalize (vs.take k).filter (moreB l) = fl at *
      generalize hfn : fl.length = fn at *
      have HFN := Lib.hid hfn
      clear hfn
      have q1 : (0 : Int) ≤ (k : Int) := by omega
      have q2 : (k : Int) < (n : Int) := by omega
      go_wp2_with fail
      refine (HP.out L cl x _ (HRL.out.below HB.out)).mono ?_
      rintro e w2 ⟨rfl, hb2⟩
      generalize headK (takesS l x) = hd
      generalize htn : (takesS l x).length = tn at *
      have HB3 := Lib.hid ((HB.out.trans (hb2.mono HB.out.size)).alloc (Nat.le_trans HB.out.size hb2.size) (rkbox hd))
      have HO3 := Lib.hid ((own_below HOWN.out hb2).alloc (rkbox hd))
      clear hb2 htn
      by_cases h1 : 1 < tn
      · have HE := Lib.hid (HYES.out (show moreB l x = true by rw [HSO.out]; simp; omega))
        have t1 : (1 : Int) < (tn : Int) := by omega
        go_wp2_with (at_builtin; refine wpList_app rfl (.tmp 26) (.tmp 28) 22 3 rfl w1.heap.size (.int .i64 0) 1 8 Try.underlying22 int_info rfl (by decide) V fn cv (ints fl) rfl (HO3.out.alloc _) (some ⟨_, 0, none⟩) 1 1 (ints [x]) rfl (by simp) rfl (blk_new (by simp)).rd (ints_one _) (fn + 1) rfl (ints (fl ++ [x])) (by simp [ints]) (by unfold maxLen; omega) (by omega) (Nat.le_trans HB3.out.size (by simp)) ?_; intro V3 cv3 w6 hown3 hg3 hb3)
        go_roundg (n - (k + 1))
        case measure => rw [HG.out]; omega
        case rel =>
          refine ⟨k + 1, V3, cv3, by omega, rfl, by go_num, ?_, ?_, (HB3.out.alloc HB3.out.size _).trans hb3⟩
          · rw [HE.out]; simp [HFN.out]
          · rw [HE.out]
            simp only [List.length_append, List.length_cons, List.length_nil, HFN.out]
            exact hown3
      · have HF := Lib.hid (show moreB l x = false by rw [HSO.out]; simp; omega)
        have t1 : ¬ ((1 : Int) < (tn : Int)) := by omega
        go_wp2
        go_roundg (n - (k + 1))
        case measure => rw [HG.out]; omega
        case rel => exact ⟨k + 1, V, cv, by omega, rfl, by go_num, by rw [HNOO.out HF.out, HFN.out], by rw [HNOO.out HF.out, HFN.out]; exact HO3.out, HB3.out⟩
    · obtain rfl : k = n := by omega
      rw [List.take_of_length_le (by rw [HN.out]; omega)] at HOWN ⊢
      generalize hfn : (vs.filter (moreB l)).length = fn at *
      go_wp2
      go_ret
      refine ⟨V, cv, ?_, ?_, HB1.out.trans (HB.out.mono HB1.out.size)⟩
      · rw [HTW.out, hfn]; rfl
      · rw [HTW.out, hfn]; exact own_lower HOWN.out HB1.out.size

end Go.Proofs.Ytmllbailfbjoeaa
