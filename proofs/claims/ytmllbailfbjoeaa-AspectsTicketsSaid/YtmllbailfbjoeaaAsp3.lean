/- aspects: Fresh, Twice, sure. -/
import Derived.Test.YtmllbailfbjoeaaAsp2
namespace Go.Proofs.Ytmllbailfbjoeaa
open Go.RowKit Go.Sort

set_option maxHeartbeats 400000 in
theorem fresh1_any (p : Kall) (v : Int) (b : Nat) (w : World) (hb : b < w.heap.size) (hc : w.cell? ⟨b, 1, none⟩ = some (.int .i64 v)) :
    Calls Try.prog 84 #[kallV p, .pointer (some ⟨b, 0, none⟩)] w fun e w' => e = .returned (.bool (decide (p.beg < v))) ∧ Below w.heap.size w w' := by
  unfold kallV
  have hne : ¬ b = w.heap.size := by omega
  have hc2 : ∀ o, (w.alloc o).cell? ⟨b, 1, none⟩ = some (.int .i64 v) := fun o => by rw [World.cell?_alloc_lt _ _ _ (by exact hb)]; exact hc
  go_enter Try.func84, Try.ntmps84
  go_wp2
  go_ret
  exact ⟨rfl, (Below.refl _ _).alloc (Nat.le_refl _) _⟩
theorem fresh1_enters : Enters 84 := enters_of Try.func84 (by kernel_rfl) (by kernel_rfl)

/-- Is a value taken ahead of any call that put it? -/
def freshB (l : List Kall) (out : List Int) (x : Kall) : Bool := !x.put && doneB x && !out.contains x.value && !(putsS l x.value).any (fun p => decide (p.beg < x.fin))
def freshTo (l : List Kall) : Nat → List Int
  | 0 => []
  | k + 1 => if freshB l (freshTo l k) (l.getD k Kall.none) = true then freshTo l k ++ [(l.getD k Kall.none).value] else freshTo l k
def freshS (l : List Kall) : List Int := freshTo l l.length

theorem freshTo_len (l : List Kall) : ∀ k, (freshTo l k).length ≤ k
  | 0 => by simp [freshTo]
  | k + 1 => by
    have := freshTo_len l k
    rw [freshTo]
    split
    · simp; omega
    · omega

set_option maxHeartbeats 8000000 in
set_option maxRecDepth 100000 in
theorem Fresh_any (A : Option Addr) (c : Nat) (ns : List Nte) (w : World) (hl : ns.length ≤ 1048576) (hok : ThreadsOk ns) (hR : Rd w A (rows ns)) :
    Calls Try.prog 38 #[.slice A ns.length c] w (RetIntsO (freshS (callsS ns)) w) := by
  have HC := Lib.hid (calls_any A c ns w hl hok hR)
  have hcl := calls_len ns
  clear hok hR
  generalize ns.length = nn at *
  generalize callsS ns = l at *
  have HP := Lib.hid (fun A1 c1 v W h => puts_any A1 c1 l v W (by omega) h)
  have HFL := Lib.hid (freshTo_len l)
  have HFS : RowKit.Hid (freshS l = freshTo l l.length) := Lib.hid rfl
  have HPL := Lib.hid (fun v => List.length_filter_le (fun x => !noPut v x) l)
  generalize hn : l.length = n at *
  have HN := Lib.hid hn
  clear hn
  go_enter Try.func38, Try.ntmps38
  go_wp2_with fail
  refine HC.out.mono ?_
  rintro e w1 ⟨L, cl, rfl, hrd, _, _, hb1⟩
  rw [HN.out]
  have HRD := Lib.hid hrd
  have HB1 := Lib.hid hb1
  clear hrd hb1
  go_wp2
  go_loopg [4, 11] n (fun g v i wr => ∃ (k : Nat) (V : Option Addr) (cv : Nat), k ≤ n ∧ g = n - k ∧ i = .int .i64 k ∧ v = .slice V (freshTo l k).length cv ∧ wr.ownsRow w1.heap.size 3 1 (.slice V (freshTo l k).length cv) (freshTo l k).length (ints (freshTo l k)) ∧ Below w1.heap.size w1 wr)
  case atStart => exact ⟨0, none, 0, Nat.zero_le _, rfl, rfl, rfl, own_nil _ _ _ _, Below.refl _ _⟩
  case round =>
    obtain ⟨k, V, cv, hk, hg, rfl, rfl, hown, hb⟩ := hrel
    have HG := Lib.hid hg
    have HB := Lib.hid hb
    have HOWN := Lib.hid hown
    have hfl := HFL.out k
    clear hg hb hown
    by_cases hlt : k < n
    · have hkl : k < l.length := by rw [HN.out]; exact hlt
      obtain ⟨b, o, rfl, hbl, hc⟩ := HRD.out.at_ (by rw [rows_length]; exact Nat.mul_pos (by omega) (by decide))
      have hcr : ∀ j v, (rows l)[j]? = some v → wr.cell? ⟨b, o + j, none⟩ = some v := fun j v hj => by
        rw [HB.out.cell (p := ⟨b, o + j, none⟩) hbl]; exact hc j v hj
      generalize hx : l.getD k Kall.none = x
      obtain ⟨c0, c1, c2, c3, c4, c5⟩ := kall_cells hcr hkl hx
      have hst : freshTo l (k + 1) = if freshB l (freshTo l k) x = true then freshTo l k ++ [x.value] else freshTo l k := by rw [freshTo, hx]
      have HST := Lib.hid hst
      clear hc hcr hx hkl hst
      generalize freshTo l k = fl at *
      have HSO : RowKit.Hid (freshB l fl x = (!x.put && doneB x && !fl.contains x.value && !(putsS l x.value).any (fun p => decide (p.beg < x.fin)))) := Lib.hid rfl
      generalize hfn : fl.length = fn at *
      have HFN := Lib.hid hfn
      clear hfn
      have q1 : (0 : Int) ≤ (k : Int) := by omega
      have q2 : (k : Int) < (n : Int) := by omega
      have HNEXT : RowKit.Hid (∀ (w3 : World), freshB l fl x = false → w3.ownsRow w1.heap.size 3 1 (.slice V fn cv) fn (ints fl) → Below w1.heap.size w1 w3 →
          ∃ (k' : Nat) (V' : Option Addr) (cv' : Nat), k' ≤ n ∧ n - (k + 1) = n - k' ∧ Value.int .i64 ((k : Int) + 1) = .int .i64 k' ∧ Value.slice V fn cv = .slice V' (freshTo l k').length cv' ∧ w3.ownsRow w1.heap.size 3 1 (.slice V' (freshTo l k').length cv') (freshTo l k').length (ints (freshTo l k')) ∧ Below w1.heap.size w1 w3) := Lib.hid (by
        intro w3 hf ho hb
        have e := HST.out
        rw [hf] at e
        simp only [Bool.false_eq_true, if_false] at e
        refine ⟨k + 1, V, cv, by omega, rfl, by go_num, ?_, ?_, hb⟩
        · rw [e, HFN.out]
        · rw [e, HFN.out]; exact ho)
      cases hp : x.put
      · rw [hp] at c3
        have HD := Lib.hid (done_any ⟨x.beg, x.fin, x.opn, false, x.value, x.code⟩)
        have hde : doneB ⟨x.beg, x.fin, x.opn, false, x.value, x.code⟩ = doneB x := rfl
        rw [hde] at HD
        clear hde
        have HB2 := Lib.hid (HB.out.alloc HB.out.size (kbox ⟨x.beg, x.fin, x.opn, false, x.value, x.code⟩))
        have HO2 := Lib.hid (HOWN.out.alloc (kbox ⟨x.beg, x.fin, x.opn, false, x.value, x.code⟩))
        cases hd : doneB x
        · rw [hd] at HD
          go_wp2_with fail
          refine (HD.out _).mono ?_
          rintro e w2 ⟨rfl, hb2⟩
          go_wp2
          go_roundg (n - (k + 1))
          case measure => rw [HG.out]; omega
          case rel => exact HNEXT.out _ (by rw [HSO.out, hp, hd]; rfl) (own_below HO2.out hb2) (HB2.out.trans (hb2.mono HB2.out.size))
        · rw [hd] at HD
          go_wp2_with fail
          refine (HD.out _).mono ?_
          rintro e w2 ⟨rfl, hb2⟩
          have hbx : w2.cell? ⟨wr.heap.size, 4, none⟩ = some (.int .i64 x.value) := by
            rw [hb2.cell (p := ⟨wr.heap.size, 4, none⟩) (by simp), World.cell?_alloc_at (hn := rfl)]; rfl
          have hbf : w2.cell? ⟨wr.heap.size, 1, none⟩ = some (.int .i64 x.fin) := by
            rw [hb2.cell (p := ⟨wr.heap.size, 1, none⟩) (by simp), World.cell?_alloc_at (hn := rfl)]; rfl
          have hsw : wr.heap.size < w2.heap.size := by have := hb2.size; simp at this; omega
          have HB3 := Lib.hid (HB2.out.trans (hb2.mono HB2.out.size))
          have HO3 := Lib.hid (own_below HO2.out hb2)
          clear hb2 HB2 HO2
          have HH := Lib.hid (HasI_any V cv fl x.value w2 (by rw [HFN.out]; unfold maxLen; omega) (own_rd HO3.out))
          rw [HFN.out] at HH
          cases hcn : fl.contains x.value
          · rw [hcn] at HH
            go_wp2_with fail
            refine HH.out.mono ?_
            rintro e w2' ⟨rfl, rfl⟩
            go_wp2_with fail
            refine (HP.out (some ⟨b, o, none⟩) cl x.value _ (HRD.out.below HB3.out)).mono ?_
            rintro e w4 ⟨P4, c4', rfl, hr4, _, _, hb4⟩
            have hbf4 : w4.cell? ⟨wr.heap.size, 1, none⟩ = some (.int .i64 x.fin) := by rw [hb4.cell (p := ⟨wr.heap.size, 1, none⟩) hsw]; exact hbf
            have hbv4 : w4.cell? ⟨wr.heap.size, 4, none⟩ = some (.int .i64 x.value) := by rw [hb4.cell (p := ⟨wr.heap.size, 4, none⟩) hsw]; exact hbx
            have hsw4 : wr.heap.size < w4.heap.size := Nat.lt_of_lt_of_le hsw hb4.size
            have HB4 := Lib.hid (HB3.out.trans (hb4.mono HB3.out.size))
            have HO4 := Lib.hid (own_below HO3.out hb4)
            have hpl := HPL.out x.value
            have HHK := Lib.hid (HasK_any P4 c4' (putsS l x.value) 84 #[.pointer (some ⟨wr.heap.size, 0, none⟩)] (fun p => decide (p.beg < x.fin)) w4 (by unfold putsS maxLen; omega) hr4 fresh1_enters (fun p _ w' hb' => fresh1_any p x.fin wr.heap.size w' (Nat.lt_of_lt_of_le hsw4 hb'.size) (by rw [hb'.cell (p := ⟨wr.heap.size, 1, none⟩) hsw4]; exact hbf4)))
            clear hb4 hr4 hbf hbx hpl
            generalize (putsS l x.value).length = pn at *
            cases han : (putsS l x.value).any (fun p => decide (p.beg < x.fin))
            · rw [han] at HHK
              go_wp2_with fail
              refine HHK.out.mono ?_
              rintro e w5 ⟨rfl, hb5⟩
              have hbv5 : w5.cell? ⟨wr.heap.size, 4, none⟩ = some (.int .i64 x.value) := by rw [hb5.cell (p := ⟨wr.heap.size, 4, none⟩) hsw4]; exact hbv4
              have HB5 := Lib.hid (HB4.out.trans (hb5.mono HB4.out.size))
              have HO5 := Lib.hid (own_below HO4.out hb5)
              have hfb : freshB l fl x = true := by rw [HSO.out, hp, hd, hcn, han]; rfl
              have HE := HST
              rw [hfb] at HE
              simp only [if_true] at HE
              clear hb5 hfb
              go_wp2_with (at_builtin; refine wpList_app rfl (.tmp 35) (.tmp 38) 22 3 rfl w1.heap.size (.int .i64 0) 1 8 Try.underlying22 int_info rfl (by decide) V fn cv (ints fl) rfl (HO5.out.alloc _) (some ⟨w5.heap.size, 0, none⟩) 1 1 (ints [x.value]) rfl (by simp) rfl (blk_new rfl).rd (ints_one _) (fn + 1) rfl (ints (fl ++ [x.value])) (by simp [ints]) (by unfold maxLen; omega) (by omega) (Nat.le_trans HB5.out.size (by simp)) ?_; intro V3 cv3 w6 hown3 hg3 hb3)
              go_roundg (n - (k + 1))
              case measure => rw [HG.out]; omega
              case rel =>
                refine ⟨k + 1, V3, cv3, by omega, rfl, by go_num, ?_, ?_, (HB5.out.alloc HB5.out.size _).trans hb3⟩
                · rw [HE.out]; simp [HFN.out]
                · rw [HE.out]
                  simp only [List.length_append, List.length_cons, List.length_nil, HFN.out]
                  exact hown3
            · rw [han] at HHK
              go_wp2_with fail
              refine HHK.out.mono ?_
              rintro e w5 ⟨rfl, hb5⟩
              go_wp2
              go_roundg (n - (k + 1))
              case measure => rw [HG.out]; omega
              case rel => exact HNEXT.out _ (by rw [HSO.out, hp, hd, hcn, han]; rfl) (own_below HO4.out hb5) (HB4.out.trans (hb5.mono HB4.out.size))
          · rw [hcn] at HH
            go_wp2_with fail
            refine HH.out.mono ?_
            rintro e w2' ⟨rfl, rfl⟩
            go_wp2
            go_roundg (n - (k + 1))
            case measure => rw [HG.out]; omega
            case rel => exact HNEXT.out _ (by rw [HSO.out, hp, hd, hcn]; rfl) HO3.out HB3.out
      · rw [hp] at c3
        go_wp2
        go_roundg (n - (k + 1))
        case measure => rw [HG.out]; omega
        case rel => exact HNEXT.out _ (by rw [HSO.out, hp]; rfl) (HOWN.out.alloc _) (HB.out.alloc HB.out.size _)
    · obtain rfl : k = n := by omega
      generalize hfn : (freshTo l k).length = fn at *
      go_wp2
      go_ret
      refine ⟨V, cv, ?_, ?_, HB1.out.trans (HB.out.mono HB1.out.size)⟩
      · rw [HFS.out, hfn]; rfl
      · rw [HFS.out, hfn]; exact own_lower HOWN.out HB1.out.size

end Go.Proofs.Ytmllbailfbjoeaa
