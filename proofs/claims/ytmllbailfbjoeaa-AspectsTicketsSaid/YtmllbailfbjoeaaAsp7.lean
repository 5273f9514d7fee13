/- aspects: Under, Denied. -/
import Derived.Test.YtmllbailfbjoeaaAsp4
namespace Go.Proofs.Ytmllbailfbjoeaa
open Go.RowKit Go.Sort

def underB (l : List Kall) (x : Kall) : Bool := decide ((takesS l x.value).length = 0)
def underS (l : List Kall) : List Int := ((sureS l).filter (underB l)).map Kall.value

theorem sure_len (l : List Kall) : (sureS l).length ≤ l.length := List.length_filter_le _ _

set_option maxHeartbeats 4000000 in
set_option maxRecDepth 100000 in
theorem Under_any (A : Option Addr) (c : Nat) (ns : List Nte) (w : World) (hl : ns.length ≤ 1048576) (hok : ThreadsOk ns) (hR : Rd w A (rows ns)) :
    Calls Try.prog 41 #[.slice A ns.length c] w (RetIntsO (underS (callsS ns)) w) := by
  have HC := Lib.hid (calls_any A c ns w hl hok hR)
  have HS := Lib.hid (fun B d W h1 h2 => sure_any A B c d ns W hl hok h1 h2)
  have HR := Lib.hid hR
  have hcl := calls_len ns
  clear hok hR
  generalize ns.length = nn at *
  generalize callsS ns = cs at *
  have HT := Lib.hid (fun A1 c1 v W h => takes_any A1 c1 cs v W (by omega) h)
  have hsl := sure_len cs
  have HUD : RowKit.Hid (underS cs = ((sureS cs).filter (underB cs)).map Kall.value) := Lib.hid rfl
  generalize hcn : cs.length = cn at *
  have HCN := Lib.hid hcn
  clear hcn
  go_enter Try.func41, Try.ntmps41
  go_wp2_with fail
  refine HC.out.mono ?_
  rintro e w0 ⟨L0, cl0, rfl, hrd0, _, _, hb0⟩
  rw [HCN.out]
  have HRD0 := Lib.hid hrd0
  have HB0 := Lib.hid hb0
  clear hrd0 hb0
  go_wp2_with fail
  refine (HS.out L0 cl0 _ (HR.out.below HB0.out) HRD0.out).mono ?_
  generalize sureS cs = l at *
  rintro e w1 ⟨L, cl, rfl, hrd, _, _, hb1⟩
  generalize hn : l.length = n at *
  have HN := Lib.hid hn
  clear hn
  have HRD := Lib.hid hrd
  have HRD1 := Lib.hid (HRD0.out.below hb1)
  have HB1 := Lib.hid (HB0.out.trans (hb1.mono HB0.out.size))
  clear hrd hb1
  go_wp2
  go_loopg [4, 13] n (fun g v i wr => ∃ (k : Nat) (V : Option Addr) (cv : Nat), k ≤ n ∧ g = n - k ∧ i = .int .i64 k ∧ v = .slice V ((l.take k).filter (underB cs)).length cv ∧ wr.ownsRow w1.heap.size 3 1 (.slice V ((l.take k).filter (underB cs)).length cv) ((l.take k).filter (underB cs)).length (ints (((l.take k).filter (underB cs)).map Kall.value)) ∧ Below w1.heap.size w1 wr)
  case atStart => exact ⟨0, none, 0, Nat.zero_le _, rfl, rfl, rfl, own_nil _ _ _ _, Below.refl _ _⟩
  case round =>
    obtain ⟨k, V, cv, hk, hg, rfl, rfl, hown, hb⟩ := hrel
    have HG := Lib.hid hg
    have HB := Lib.hid hb
    have HOWN := Lib.hid hown
    have hfl := ints_len_filter l (underB cs) k
    clear hg hb hown
    by_cases hlt : k < n
    · have hkl : k < l.length := by rw [HN.out]; exact hlt
      obtain ⟨b, o, rfl, hbl, hc⟩ := HRD.out.at_ (by rw [rows_length]; exact Nat.mul_pos (by omega) (by decide))
      have hcr : ∀ j v, (rows l)[j]? = some v → wr.cell? ⟨b, o + j, none⟩ = some v := fun j v hj => by
        rw [HB.out.cell (p := ⟨b, o + j, none⟩) hbl]; exact hc j v hj
      generalize hx : l.getD k Kall.none = x
      obtain ⟨c0, c1, c2, c3, c4, c5⟩ := kall_cells hcr hkl hx
      have HSO : RowKit.Hid (underB cs x = decide ((takesS cs x.value).length = 0)) := Lib.hid rfl
      have HYES := Lib.hid (fun h => filter_take_yes (p := underB cs) (d := Kall.none) hkl h)
      have HNOO := Lib.hid (fun h => filter_take_no (p := underB cs) (d := Kall.none) hkl h)
      rw [hx] at HYES HNOO
      clear hc hcr hx hkl
      generalize (l.take k).filter (underB cs) = fl at *
      generalize hfn : fl.length = fn at *
      have HFN := Lib.hid hfn
      clear hfn
      have q1 : (0 : Int) ≤ (k : Int) := by omega
      have q2 : (k : Int) < (n : Int) := by omega
      go_wp2_with fail
      refine (HT.out L0 cl0 x.value _ ((HRD1.out.below HB.out).alloc _)).mono ?_
      rintro e w2 ⟨P2, c2', rfl, _, _, _, hb2⟩
      have hbx : w2.cell? ⟨wr.heap.size, 4, none⟩ = some (.int .i64 x.value) := by
        rw [hb2.cell (p := ⟨wr.heap.size, 4, none⟩) (by simp), World.cell?_alloc_at (hn := rfl)]; rfl
      have HB2 := Lib.hid ((HB.out.alloc HB.out.size (kbox x)).trans (hb2.mono (by have := HB.out.size; simp; omega)))
      have HO2 := Lib.hid (own_below (HOWN.out.alloc _) hb2)
      clear hb2
      by_cases h1 : (takesS cs x.value).length = 0
      · rw [h1]
        have hso : underB cs x = true := by rw [HSO.out, h1]; rfl
        have HE := Lib.hid (HYES.out hso)
        clear h1 hso
        go_wp2_with (at_builtin; refine wpList_app rfl (.tmp 23) (.tmp 26) 22 3 rfl w1.heap.size (.int .i64 0) 1 8 Try.underlying22 int_info rfl (by decide) V fn cv (ints (fl.map Kall.value)) rfl (HO2.out.alloc _) (some ⟨w2.heap.size, 0, none⟩) 1 1 (ints [x.value]) rfl (by simp) rfl (blk_new rfl).rd (ints_one _) (fn + 1) rfl (ints (fl.map Kall.value ++ [x.value])) (by simp [ints]) (by unfold maxLen; omega) (by omega) (Nat.le_trans HB2.out.size (by simp)) ?_; intro V3 cv3 w3 hown3 hg3 hb3)
        go_roundg (n - (k + 1))
        case measure => rw [HG.out]; omega
        case rel =>
          refine ⟨k + 1, V3, cv3, by omega, rfl, by go_num, ?_, ?_, (HB2.out.alloc HB2.out.size _).trans hb3⟩
          · rw [HE.out]; simp [HFN.out]
          · rw [HE.out]
            simp only [List.map_append, List.map_cons, List.map_nil, List.length_append, List.length_cons, List.length_nil, HFN.out]
            exact hown3
      · have hso : underB cs x = false := by rw [HSO.out]; simpa using h1
        have HE := Lib.hid (HNOO.out hso)
        generalize (takesS cs x.value).length = pn at *
        have t1 : ((pn : Int) == 0) = false := by simp; omega
        clear h1 hso
        go_wp2
        go_roundg (n - (k + 1))
        case measure => rw [HG.out]; omega
        case rel =>
          refine ⟨k + 1, V, cv, by omega, rfl, by go_num, ?_, ?_, HB2.out⟩
          · rw [HE.out, HFN.out]
          · rw [HE.out, HFN.out]; exact HO2.out
    · obtain rfl : k = n := by omega
      rw [List.take_of_length_le (by rw [HN.out]; omega)] at HOWN ⊢
      have HV := Lib.hid (show (underS cs).length = (l.filter (underB cs)).length by rw [HUD.out, List.length_map])
      generalize hfn : (l.filter (underB cs)).length = fn at *
      go_wp2
      go_ret
      refine ⟨V, cv, ?_, ?_, HB1.out.trans (HB.out.mono HB1.out.size)⟩
      · rw [HV.out]; rfl
      · rw [HV.out, HUD.out]; exact own_lower HOWN.out HB1.out.size

end Go.Proofs.Ytmllbailfbjoeaa
