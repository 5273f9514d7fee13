/- aspects: Denied. -/
import Derived.Test.YtieglgahfeecbaaGreatDoorA12
namespace Go.Proofs.YtieglgahfeecbaaGreatDoor
open Go.RowKit Go.Sort

set_option maxHeartbeats 400000 in
theorem fresh1_any (p : Kall) (v : Int) (b : Nat) (w : World) (hb : b < w.heap.size) (hc : w.cell? ⟨b, 1, none⟩ = some (.int .i64 v)) :
    Calls Tryz.prog 61 #[kallV p, .pointer (some ⟨b, 0, none⟩)] w fun e w' => e = .returned (.bool (decide (p.beg < v))) ∧ Below w.heap.size w w' := by
  unfold kallV
  have hne : ¬ b = w.heap.size := by omega
  have hc2 : ∀ o, (w.alloc o).cell? ⟨b, 1, none⟩ = some (.int .i64 v) := fun o => by rw [World.cell?_alloc_lt _ _ _ (by exact hb)]; exact hc
  go_enter Tryz.func61, Tryz.ntmps61
  go_wp2
  go_ret
  exact ⟨rfl, (Below.refl _ _).alloc (Nat.le_refl _) _⟩
theorem fresh1_enters : Enters 61 := enters_of Tryz.func61 (by kernel_rfl) (by kernel_rfl)

/-- Is a value taken ahead of any call that put it? -/
def freshB (l : List Kall) (out : List Int) (x : Kall) : Bool := !x.put && doneB x && !out.contains x.value && !(putsS l x.value).any (fun p => decide (p.beg < x.fin))
def freshTo (l : List Kall) : Nat → List Int
  | 0 => []
  | k + 1 => if freshB l (freshTo l k) (l.getD k Kall.none) = true then freshTo l k ++ [(l.getD k Kall.none).value] else freshTo l k
def freshS (l : List Kall) : List Int := freshTo l l.length

theorem freshTo_len (l : List Kall) : ∀ k, (freshTo l k).length ≤ k
  | 0 => by simp [freshTo]
  | k + 1 => by
    have := freshTo_len l k
    rw [freshTo]
    split
    · simp; omega
    · omega

set_option maxHeartbeats 8000000 in
set_option maxRecDepth 100000 in
theorem Fresh_any (A : Option Addr) (c : Nat) (ns : List Nte) (w : World) (hl : ns.length ≤ 1048576) (hok : ThreadsOk ns) (hR : Rd w A (rows ns)) :
    Calls Tryz.prog 31 #[.slice A ns.length c] w (RetIntsO (freshS (callsS ns)) w) := by
  have HC := Lib.hid (calls_any A c ns w hl hok hR)
  have hcl := calls_len ns
  clear hok hR
  generalize ns.length = nn at *
  generalize callsS ns = l at *
  have HP := Lib.hid (fun A1 c1 v W h => puts_any A1 c1 l v W (by omega) h)
  have HFL := Lib.hid (freshTo_len l)
  have HFS : RowKit.Hid (freshS l = freshTo l l.length) := Lib.hid rfl
  have HPL := Lib.hid (fun v => List.length_filter_le (fun x => !noPut v x) l)
  generalize hn : l.length = n at *
  have HN := Lib.hid hn
  clear hn
  go_enter Tryz.func31, Tryz.ntmps31
  go_wp2_with fail
  refine HC.out.mono ?_
  rintro e w1 ⟨L, cl, rfl, hrd, _, _, hb1⟩
  rw [HN.out]
  have HRD := Lib.hid hrd
  have HB1 := Lib.hid hb1
  clear hrd hb1
  go_wp2
  go_loopg [4, 11] n (fun g v i wr => ∃ (k : Nat) (V : Option Addr) (cv : Nat), k ≤ n ∧ g = n - k ∧ i = .int .i64 k ∧ v = .slice V (freshTo l k).length cv ∧ wr.ownsRow w1.heap.size 3 1 (.slice V (freshTo l k).length cv) (freshTo l k).length (ints (freshTo l k)) ∧ Below w1.heap.size w1 wr)
  case atStart => exact ⟨0, none, 0, Nat.zero_le _, rfl, rfl, rfl, own_nil _ _ _ _, Below.refl _ _⟩
  case round =>
    obtain ⟨k, V, cv, hk, hg, rfl, rfl, hown, hb⟩ := hrel
    have HG := Lib.hid hg
    have HB := Lib.hid hb
    have HOWN := Lib.hid hown
    have hfl := HFL.out k
    clear hg hb hown
    by_cases hlt : k < n
    · have hkl : k < l.length := by rw [HN.out]; exact hlt
      obtain ⟨b, o, rfl, hbl, hc⟩ := HRD.out.at_ (by rw [rows_length]; exact Nat.mul_pos (by omega) (by decide))
      have hcr : ∀ j v, (rows l)[j]? = some v → wr.cell? ⟨b, o + j, none⟩ = some v := fun j v hj => by
        rw [HB.out.cell (p := ⟨b, o + j, none⟩) hbl]; exact hc j v hj
      generalize hx : l.getD k Kall.none = x
      obtain ⟨c0, c1, c2, c3, c4, c5⟩ := kall_cells hcr hkl hx
      have hst : freshTo l (k + 1) = if freshB l (freshTo l k) x = true then freshTo l k ++ [x.value] else freshTo l k := by rw [freshTo, hx]
      have HST := Lib.hid hst
      clear hc hcr hx hkl hst
      generalize freshTo l k = fl at *
      have HSO : RowKit.Hid (freshB l fl x = (!x.put && doneB x && !fl.contains x.value && !(putsS l x.value).any (fun p => decide (p.beg < x.fin)))) := Lib.hid rfl
      generalize hfn : fl.length = fn at *
      have HFN := Lib.hid hfn
      clear hfn
      have q1 : (0 : Int) ≤ (k : Int) := by omega
      have q2 : (k : Int) < (n : Int) := by omega
      have HNEXT : RowKit.Hid (∀ (w3 : World), freshB l fl x = false → w3.ownsRow w1.heap.size 3 1 (.slice V fn cv) fn (ints fl) → Below w1.heap.size w1 w3 →
          ∃ (k' : Nat) (V' : Option Addr) (cv' : Nat), k' ≤ n ∧ n - (k + 1) = n - k' ∧ Value.int .i64 ((k : Int) + 1) = .int .i64 k' ∧ Value.slice V fn cv = .slice V' (freshTo l k').length cv' ∧ w3.ownsRow w1.heap.size 3 1 (.slice V' (freshTo l k').length cv') (freshTo l k').length (ints (freshTo l k')) ∧ Below w1.heap.size w1 w3) := Lib.hid (by
        intro w3 hf ho hb
        have e := HST.out
        rw [hf] at e
        simp only [Bool.false_eq_true, if_false] at e
        refine ⟨k + 1, V, cv, by omega, rfl, by go_num, ?_, ?_, hb⟩
        · rw [e, HFN.out]
        · rw [e, HFN.out]; exact ho)
      cases hp : x.put
      · rw [hp] at c3
        have HD := Lib.hid (done_any ⟨x.beg, x.fin, x.opn, false, x.value, x.code⟩)
        have hde : doneB ⟨x.beg, x.fin, x.opn, false, x.value, x.code⟩ = doneB x := rfl
        rw [hde] at HD
        clear hde
        have HB2 := Lib.hid (HB.out.alloc HB.out.size (kbox ⟨x.beg, x.fin, x.opn, false, x.value, x.code⟩))
        have HO2 := Lib.hid (HOWN.out.alloc (kbox ⟨x.beg, x.fin, x.opn, false, x.value, x.code⟩))
        cases hd : doneB x
        · rw [hd] at HD
          go_wp2_with fail
          refine (HD.out _).mono ?_
          rintro e w2 ⟨rfl, hb2⟩
          go_wp2
          go_roundg (n - (k + 1))
          case measure => rw [HG.out]; omega
          case rel => exact HNEXT.out _ (by rw [HSO.out, hp, hd]; rfl) (own_below HO2.out hb2) (HB2.out.trans (hb2.mono HB2.out.size))
        · rw [hd] at HD
          go_wp2_with fail
          refine (HD.out _).mono ?_
          rintro e w2 ⟨rfl, hb2⟩
          have hbx : w2.cell? ⟨wr.heap.size, 4, none⟩ = some (.int .i64 x.value) := by
            rw [hb2.cell (p := ⟨wr.heap.size, 4, none⟩) (by simp), World.cell?_alloc_at (hn := rfl)]; rfl
          have hbf : w2.cell? ⟨wr.heap.size, 1, none⟩ = some (.int .i64 x.fin) := by
            rw [hb2.cell (p := ⟨wr.heap.size, 1, none⟩) (by simp), World.cell?_alloc_at (hn := rfl)]; rfl
          have hsw : wr.heap.size < w2.heap.size := by have := hb2.size; simp at this; omega
          have HB3 := Lib.hid (HB2.out.trans (hb2.mono HB2.out.size))
          have HO3 := Lib.hid (own_below HO2.out hb2)
          clear hb2 HB2 HO2
          have HH := Lib.hid (HasI_any V cv fl x.value w2 (by rw [HFN.out]; unfold maxLen; omega) (own_rd HO3.out))
          rw [HFN.out] at HH
          cases hcn : fl.contains x.value
          · rw [hcn] at HH
            go_wp2_with fail
            refine HH.out.mono ?_
            rintro e w2' ⟨rfl, rfl⟩
            go_wp2_with fail
            refine (HP.out (some ⟨b, o, none⟩) cl x.value _ (HRD.out.below HB3.out)).mono ?_
            rintro e w4 ⟨P4, c4', rfl, hr4, _, _, hb4⟩
            have hbf4 : w4.cell? ⟨wr.heap.size, 1, none⟩ = some (.int .i64 x.fin) := by rw [hb4.cell (p := ⟨wr.heap.size, 1, none⟩) hsw]; exact hbf
            have hbv4 : w4.cell? ⟨wr.heap.size, 4, none⟩ = some (.int .i64 x.value) := by rw [hb4.cell (p := ⟨wr.heap.size, 4, none⟩) hsw]; exact hbx
            have hsw4 : wr.heap.size < w4.heap.size := Nat.lt_of_lt_of_le hsw hb4.size
            have HB4 := Lib.hid (HB3.out.trans (hb4.mono HB3.out.size))
            have HO4 := Lib.hid (own_below HO3.out hb4)
            have hpl := HPL.out x.value
            have HHK := Lib.hid (HasK_any P4 c4' (putsS l x.value) 61 #[.pointer (some ⟨wr.heap.size, 0, none⟩)] (fun p => decide (p.beg < x.fin)) w4 (by unfold putsS maxLen; omega) hr4 fresh1_enters (fun p _ w' hb' => fresh1_any p x.fin wr.heap.size w' (Nat.lt_of_lt_of_le hsw4 hb'.size) (by rw [hb'.cell (p := ⟨wr.heap.size, 1, none⟩) hsw4]; exact hbf4)))
            clear hb4 hr4 hbf hbx hpl
            generalize (putsS l x.value).length = pn at *
            cases han : (putsS l x.value).any (fun p => decide (p.beg < x.fin))
            · rw [han] at HHK
              go_wp2_with fail
              refine HHK.out.mono ?_
              rintro e w5 ⟨rfl, hb5⟩
              have hbv5 : w5.cell? ⟨wr.heap.size, 4, none⟩ = some (.int .i64 x.value) := by rw [hb5.cell (p := ⟨wr.heap.size, 4, none⟩) hsw4]; exact hbv4
              have HB5 := Lib.hid (HB4.out.trans (hb5.mono HB4.out.size))
              have HO5 := Lib.hid (own_below HO4.out hb5)
              have hfb : freshB l fl x = true := by rw [HSO.out, hp, hd, hcn, han]; rfl
              have HE := HST
              rw [hfb] at HE
              simp only [if_true] at HE
              clear hb5 hfb
              go_wp2_with (at_builtin; refine wpList_app rfl (.tmp 35) (.tmp 38) 22 3 rfl w1.heap.size (.int .i64 0) 1 8 Tryz.underlying22 int_info rfl (by decide) V fn cv (ints fl) rfl (HO5.out.alloc _) (some ⟨w5.heap.size, 0, none⟩) 1 1 (ints [x.value]) rfl (by simp) rfl (blk_new rfl).rd (ints_one _) (fn + 1) rfl (ints (fl ++ [x.value])) (by simp [ints]) (by unfold maxLen; omega) (by omega) (Nat.le_trans HB5.out.size (by simp)) ?_; intro V3 cv3 w6 hown3 hg3 hb3)
              go_roundg (n - (k + 1))
              case measure => rw [HG.out]; omega
              case rel =>
                refine ⟨k + 1, V3, cv3, by omega, rfl, by go_num, ?_, ?_, (HB5.out.alloc HB5.out.size _).trans hb3⟩
                · rw [HE.out]; simp [HFN.out]
                · rw [HE.out]
                  simp only [List.length_append, List.length_cons, List.length_nil, HFN.out]
                  exact hown3
            · rw [han] at HHK
              go_wp2_with fail
              refine HHK.out.mono ?_
              rintro e w5 ⟨rfl, hb5⟩
              go_wp2
              go_roundg (n - (k + 1))
              case measure => rw [HG.out]; omega
              case rel => exact HNEXT.out _ (by rw [HSO.out, hp, hd, hcn, han]; rfl) (own_below HO4.out hb5) (HB4.out.trans (hb5.mono HB4.out.size))
          · rw [hcn] at HH
            go_wp2_with fail
            refine HH.out.mono ?_
            rintro e w2' ⟨rfl, rfl⟩
            go_wp2
            go_roundg (n - (k + 1))
            case measure => rw [HG.out]; omega
            case rel => exact HNEXT.out _ (by rw [HSO.out, hp, hd, hcn]; rfl) HO3.out HB3.out
      · rw [hp] at c3
        go_wp2
        go_roundg (n - (k + 1))
        case measure => rw [HG.out]; omega
        case rel => exact HNEXT.out _ (by rw [HSO.out, hp]; rfl) (HOWN.out.alloc _) (HB.out.alloc HB.out.size _)
    · obtain rfl : k = n := by omega
      generalize hfn : (freshTo l k).length = fn at *
      go_wp2
      go_ret
      refine ⟨V, cv, ?_, ?_, HB1.out.trans (HB.out.mono HB1.out.size)⟩
      · rw [HFS.out, hfn]; rfl
      · rw [HFS.out, hfn]; exact own_lower HOWN.out HB1.out.size

end Go.Proofs.YtieglgahfeecbaaGreatDoor

namespace Go.Proofs.YtieglgahfeecbaaGreatDoor
open Go.RowKit Go.Sort

theorem takes_len (l : List Kall) (v : Int) : (takesS l v).length ≤ l.length := List.length_filter_le _ _

set_option maxHeartbeats 400000 in
theorem twice1_any (A : Option Addr) (c : Nat) (l : List Kall) (v : Int) (b : Nat) (w : World) (hl : l.length ≤ 1048576) (hR : Rd w A (rows l)) (hc : w.cell? ⟨b, 0, none⟩ = some (.slice A l.length c)) :
    Calls Tryz.prog 63 #[.int .i64 v, .pointer (some ⟨b, 0, none⟩)] w fun e w' => e = .returned (.bool (decide (((takesS l v).length : Int) < 2))) ∧ Below w.heap.size w w' := by
  have HT := Lib.hid (takes_any A c l v w hl hR)
  have htl := takes_len l v
  clear hR
  generalize l.length = n at *
  go_enter Tryz.func63, Tryz.ntmps63
  go_wp2_with fail
  refine HT.out.mono ?_
  rintro e w1 ⟨T, ct, rfl, _, _, _, hb1⟩
  generalize htn : (takesS l v).length = tn at *
  have HTN := Lib.hid htn
  clear htn
  go_wp2
  go_ret
  exact ⟨ret_bool (by rw [HTN.out]), hb1⟩
theorem twice1_enters : Enters 63 := enters_of Tryz.func63 (by kernel_rfl) (by kernel_rfl)

def twiceS (l : List Kall) : List Int := (valuesS l).filter fun v => !decide (((takesS l v).length : Int) < 2)

theorem values_len (l : List Kall) : (valuesS l).length ≤ l.length := by
  unfold valuesS
  rw [List.length_map]
  exact List.length_filter_le _ _

set_option maxHeartbeats 4000000 in
set_option maxRecDepth 100000 in
theorem Twice_any (A : Option Addr) (c : Nat) (ns : List Nte) (w : World) (hl : ns.length ≤ 1048576) (hok : ThreadsOk ns) (hR : Rd w A (rows ns)) :
    Calls Tryz.prog 32 #[.slice A ns.length c] w (RetIntsC (twiceS (callsS ns)) w) := by
  have HC := Lib.hid (calls_any A c ns w hl hok hR)
  have HV := Lib.hid (fun W h => Values_any A c ns W hl hok h)
  have HR := Lib.hid hR
  have hcl := calls_len ns
  clear hok hR
  generalize ns.length = nn at *
  generalize callsS ns = l at *
  have hvl := values_len l
  generalize hn : l.length = n at *
  have HN := Lib.hid hn
  clear hn
  go_enter Tryz.func32, Tryz.ntmps32
  go_wp2_with fail
  refine HC.out.mono ?_
  rintro e w1 ⟨L, cl, rfl, hrd, _, _, hb1⟩
  rw [HN.out]
  have HRD := Lib.hid hrd
  have HB1 := Lib.hid hb1
  clear hrd hb1
  go_wp2_with fail
  refine (HV.out _ ((HR.out.below HB1.out).alloc _)).mono ?_
  rintro e w2 ⟨V, cv, rfl, hown, hb2⟩
  have e1 : (w1.alloc (.cells #[.slice L n cl] 101)).heap.size = w1.heap.size + 1 := by simp
  rw [e1] at hown hb2
  have HO := Lib.hid hown
  have HB2 := Lib.hid hb2
  have hcx : w2.cell? ⟨w1.heap.size, 0, none⟩ = some (.slice L n cl) := by
    rw [hb2.cell (p := ⟨w1.heap.size, 0, none⟩) (by show w1.heap.size < w1.heap.size + 1; omega)]; simp
  have HCX := Lib.hid hcx
  have HD := Lib.hid (DelI_own V cv (w1.heap.size + 1) (valuesS l) 63 #[.pointer (some ⟨w1.heap.size, 0, none⟩)] (fun v => decide (((takesS l v).length : Int) < 2)) w2 (by omega) hown (by have := hb2.size; simpa using this) twice1_enters (by
    intro v _ w' hb'
    have hR' : Rd w' L (rows l) := ((HRD.out.alloc (.cells #[.slice L n cl] 101)).below (by rw [e1]; exact hb2.trans hb'))
    exact twice1_any L cl l v w1.heap.size w' (by rw [HN.out]; omega) hR' (by rw [hb'.cell (p := ⟨w1.heap.size, 0, none⟩) (by show w1.heap.size < w1.heap.size + 1; omega), HN.out]; exact HCX.out)))
  have hvc := own_le hown
  have HVN := Lib.hid (fun h => (own_none hown h).2.1)
  have htl := List.length_filter_le (fun v => !decide (((takesS l v).length : Int) < 2)) (valuesS l)
  have HTW : RowKit.Hid (twiceS l = (valuesS l).filter fun v => !decide (((takesS l v).length : Int) < 2)) := Lib.hid rfl
  clear hown hb2 e1 hcx
  generalize (valuesS l).filter (fun v => !decide (((takesS l v).length : Int) < 2)) = tw at *
  generalize (valuesS l).length = vn at *
  go_wp2_with fail
  refine HD.out.mono ?_
  rintro e w3 ⟨rfl, hr3, hb3⟩
  go_wp2
  go_ret
  refine ⟨V, cv, ?_, by rw [HTW.out]; exact hr3, by rw [HTW.out]; omega, HVN.out, ?_⟩
  · rw [HTW.out]; rfl
  · exact ((HB1.out.alloc HB1.out.size _).trans ((HB2.out.trans hb3).mono (by have := HB1.out.size; omega)))

set_option maxHeartbeats 1000000 in
set_option maxRecDepth 100000 in
theorem sure1_any (A : Option Addr) (c : Nat) (vs : List Int) (x : Kall) (b : Nat) (w : World) (hl : vs.length ≤ maxLen) (hb : b < w.heap.size) (hR : Rd w A (ints vs)) (hc : w.cell? ⟨b, 0, none⟩ = some (.slice A vs.length c)) :
    Calls Tryz.prog 91 #[kallV x, .pointer (some ⟨b, 0, none⟩)] w fun e w' => e = .returned (.bool (!x.put || !doneB x || !vs.contains x.value)) ∧ Below w.heap.size w w' := by
  have HD := Lib.hid (done_any x)
  have HH := Lib.hid (fun W h => HasI_any A c vs x.value W hl h)
  have HR := Lib.hid hR
  unfold kallV at HD ⊢
  clear hR hl
  generalize vs.length = n at *
  have hne : ¬ b = w.heap.size := by omega
  cases hp : x.put
  · go_enter Tryz.func91, Tryz.ntmps91
    go_wp2
    go_ret
    exact ⟨ret_bool (by simp), (Below.refl _ _).alloc (Nat.le_refl _) _⟩
  · rw [hp] at HD
    cases hd : doneB x
    all_goals
      rw [hd] at HD
      have HX := Lib.hid hd
      clear hd
      go_enter Tryz.func91, Tryz.ntmps91
      go_wp2_with fail
      refine (HD.out _).mono ?_
      rintro e w1 ⟨rfl, hb1⟩
      have hc1 : w1.cell? ⟨b, 0, none⟩ = some (.slice A n c) := by
        rw [hb1.cell (p := ⟨b, 0, none⟩) (by simp; omega), World.cell?_alloc_lt _ _ _ (by exact hb)]; exact hc
      have hv1 : w1.cell? ⟨w.heap.size, 4, none⟩ = some (.int .i64 x.value) := by
        rw [hb1.cell (p := ⟨w.heap.size, 4, none⟩) (by simp), World.cell?_alloc_at (hn := rfl)]; rfl
      have HB1 := Lib.hid (((Below.refl _ _).alloc (Nat.le_refl _) _).trans (hb1.mono (by simp)) : Below w.heap.size w w1)
      clear hb1
      first
        | (go_wp2_with (go_at_call 60; refine (HH.out _ (HR.out.below HB1.out)).mono ?_; rintro e w2 ⟨rfl, rfl⟩); go_ret; exact ⟨ret_bool (by simp), HB1.out⟩)
theorem sure1_enters : Enters 91 := enters_of Tryz.func91 (by kernel_rfl) (by kernel_rfl)

/-- Is a call no put that ended well, of a value that no other one tried to put? -/
def unsureB (vs : List Int) (x : Kall) : Bool := !x.put || !doneB x || !vs.contains x.value
def sureS (l : List Kall) : List Kall := l.filter fun x => !unsureB (valuesS l) x

set_option maxHeartbeats 4000000 in
set_option maxRecDepth 100000 in
theorem sure_any (A B : Option Addr) (c d : Nat) (ns : List Nte) (w : World) (hl : ns.length ≤ 1048576) (hok : ThreadsOk ns) (hR : Rd w A (rows ns)) (hL : Rd w B (rows (callsS ns))) :
    Calls Tryz.prog 53 #[.slice A ns.length c, .slice B (callsS ns).length d] w (RetRows (sureS (callsS ns)) w) := by
  have HV := Lib.hid (Values_any A c ns w hl hok hR)
  have HL := Lib.hid hL
  have hcl := calls_len ns
  clear hok hR hL
  generalize ns.length = nn at *
  generalize callsS ns = l at *
  have hvl := values_len l
  have HC := Lib.hid (fun W h => CloneK_any B l.length d (rows l) W (by omega) (by rw [rows_length]; rfl) (rows_one l) h)
  generalize hn : l.length = n at *
  have HN := Lib.hid hn
  clear hn
  go_enter Tryz.func53, Tryz.ntmps53
  go_wp2_with fail
  refine HV.out.mono ?_
  rintro e w1 ⟨V, cv, rfl, hown, hb1⟩
  have HRV := Lib.hid (own_rd hown)
  have HB1 := Lib.hid hb1
  clear hown hb1
  go_wp2_with fail
  refine (HC.out _ ((HL.out.below HB1.out).alloc _)).mono ?_
  rintro e w2 ⟨A2, c2, rfl, hown, hb2⟩
  have e1 : (w1.alloc (.cells #[.slice V (valuesS l).length cv] 22)).heap.size = w1.heap.size + 1 := by simp
  rw [e1] at hown hb2
  have HO := Lib.hid hown
  have HB2 := Lib.hid hb2
  have hcx : w2.cell? ⟨w1.heap.size, 0, none⟩ = some (.slice V (valuesS l).length cv) := by
    rw [hb2.cell (p := ⟨w1.heap.size, 0, none⟩) (by show w1.heap.size < w1.heap.size + 1; omega)]; simp
  have HCX := Lib.hid hcx
  have hs2 : w1.heap.size + 1 ≤ w2.heap.size := by have := hb2.size; simpa using this
  have HD := Lib.hid (DelK_own A2 c2 (w1.heap.size + 1) l 91 #[.pointer (some ⟨w1.heap.size, 0, none⟩)] (unsureB (valuesS l)) w2 (by rw [HN.out]; omega) (by rw [HN.out]; exact hown) hs2 sure1_enters (by
    intro x _ w' hb'
    have hR' : Rd w' V (ints (valuesS l)) := ((HRV.out.alloc (.cells #[.slice V (valuesS l).length cv] 22)).below (by rw [e1]; exact hb2.trans hb'))
    exact sure1_any V cv (valuesS l) x w1.heap.size w' (by unfold maxLen; omega) (by have := hb'.size; omega) hR' (by rw [hb'.cell (p := ⟨w1.heap.size, 0, none⟩) (by show w1.heap.size < w1.heap.size + 1; omega)]; exact HCX.out)))
  rw [HN.out] at HD
  have hvc := own_le hown
  have HVN := Lib.hid (fun h => (own_none hown h).2.1)
  have htl := List.length_filter_le (fun x => !unsureB (valuesS l) x) l
  have HSU : RowKit.Hid (sureS l = l.filter fun x => !unsureB (valuesS l) x) := Lib.hid rfl
  rw [HN.out] at htl
  clear hown hb2 e1 hcx
  generalize l.filter (fun x => !unsureB (valuesS l) x) = su at *
  generalize (valuesS l).length = vn at *
  go_wp2_with fail
  refine HD.out.mono ?_
  rintro e w3 ⟨rfl, hr3, hb3⟩
  go_wp2
  go_ret
  refine ⟨A2, c2, ?_, by rw [HSU.out]; exact hr3, by rw [HSU.out]; omega, HVN.out, ?_⟩
  · rw [HSU.out]; rfl
  · exact ((HB1.out.alloc HB1.out.size _).trans ((HB2.out.trans hb3).mono (by have := HB1.out.size; omega)))

end Go.Proofs.YtieglgahfeecbaaGreatDoor

namespace Go.Proofs.YtieglgahfeecbaaGreatDoor
open Go.RowKit Go.Sort

def underB (l : List Kall) (x : Kall) : Bool := decide ((takesS l x.value).length = 0)
def underS (l : List Kall) : List Int := ((sureS l).filter (underB l)).map Kall.value

theorem sure_len (l : List Kall) : (sureS l).length ≤ l.length := List.length_filter_le _ _

set_option maxHeartbeats 4000000 in
set_option maxRecDepth 100000 in
theorem Under_any (A : Option Addr) (c : Nat) (ns : List Nte) (w : World) (hl : ns.length ≤ 1048576) (hok : ThreadsOk ns) (hR : Rd w A (rows ns)) :
    Calls Tryz.prog 28 #[.slice A ns.length c] w (RetIntsO (underS (callsS ns)) w) := by
  have HC := Lib.hid (calls_any A c ns w hl hok hR)
  have HS := Lib.hid (fun B d W h1 h2 => sure_any A B c d ns W hl hok h1 h2)
  have HR := Lib.hid hR
  have hcl := calls_len ns
  clear hok hR
  generalize ns.length = nn at *
  generalize callsS ns = cs at *
  have HT := Lib.hid (fun A1 c1 v W h => takes_any A1 c1 cs v W (by omega) h)
  have hsl := sure_len cs
  have HUD : RowKit.Hid (underS cs = ((sureS cs).filter (underB cs)).map Kall.value) := Lib.hid rfl
  generalize hcn : cs.length = cn at *
  have HCN := Lib.hid hcn
  clear hcn
  go_enter Tryz.func28, Tryz.ntmps28
  go_wp2_with fail
  refine HC.out.mono ?_
  rintro e w0 ⟨L0, cl0, rfl, hrd0, _, _, hb0⟩
  rw [HCN.out]
  have HRD0 := Lib.hid hrd0
  have HB0 := Lib.hid hb0
  clear hrd0 hb0
  go_wp2_with fail
  refine (HS.out L0 cl0 _ (HR.out.below HB0.out) HRD0.out).mono ?_
  generalize sureS cs = l at *
  rintro e w1 ⟨L, cl, rfl, hrd, _, _, hb1⟩
  generalize hn : l.length = n at *
  have HN := Lib.hid hn
  clear hn
  have HRD := Lib.hid hrd
  have HRD1 := Lib.hid (HRD0.out.below hb1)
  have HB1 := Lib.hid (HB0.out.trans (hb1.mono HB0.out.size))
  clear hrd hb1
  go_wp2
  go_loopg [4, 13] n (fun g v i wr => ∃ (k : Nat) (V : Option Addr) (cv : Nat), k ≤ n ∧ g = n - k ∧ i = .int .i64 k ∧ v = .slice V ((l.take k).filter (underB cs)).length cv ∧ wr.ownsRow w1.heap.size 3 1 (.slice V ((l.take k).filter (underB cs)).length cv) ((l.take k).filter (underB cs)).length (ints (((l.take k).filter (underB cs)).map Kall.value)) ∧ Below w1.heap.size w1 wr)
  case atStart => exact ⟨0, none, 0, Nat.zero_le _, rfl, rfl, rfl, own_nil _ _ _ _, Below.refl _ _⟩
  case round =>
    obtain ⟨k, V, cv, hk, hg, rfl, rfl, hown, hb⟩ := hrel
    have HG := Lib.hid hg
    have HB := Lib.hid hb
    have HOWN := Lib.hid hown
    have hfl := ints_len_filter l (underB cs) k
    clear hg hb hown
    by_cases hlt : k < n
    · have hkl : k < l.length := by rw [HN.out]; exact hlt
      obtain ⟨b, o, rfl, hbl, hc⟩ := HRD.out.at_ (by rw [rows_length]; exact Nat.mul_pos (by omega) (by decide))
      have hcr : ∀ j v, (rows l)[j]? = some v → wr.cell? ⟨b, o + j, none⟩ = some v := fun j v hj => by
        rw [HB.out.cell (p := ⟨b, o + j, none⟩) hbl]; exact hc j v hj
      generalize hx : l.getD k Kall.none = x
      obtain ⟨c0, c1, c2, c3, c4, c5⟩ := kall_cells hcr hkl hx
      have HSO : RowKit.Hid (underB cs x = decide ((takesS cs x.value).length = 0)) := Lib.hid rfl
      have HYES := Lib.hid (fun h => filter_take_yes (p := underB cs) (d := Kall.none) hkl h)
      have HNOO := Lib.hid (fun h => filter_take_no (p := underB cs) (d := Kall.none) hkl h)
      rw [hx] at HYES HNOO
      clear hc hcr hx hkl
      generalize (l.take k).filter (underB cs) = fl at *
      generalize hfn : fl.length = fn at *
      have HFN := Lib.hid hfn
      clear hfn
      have q1 : (0 : Int) ≤ (k : Int) := by omega
      have q2 : (k : Int) < (n : Int) := by omega
      go_wp2_with fail
      refine (HT.out L0 cl0 x.value _ ((HRD1.out.below HB.out).alloc _)).mono ?_
      rintro e w2 ⟨P2, c2', rfl, _, _, _, hb2⟩
      have hbx : w2.cell? ⟨wr.heap.size, 4, none⟩ = some (.int .i64 x.value) := by
        rw [hb2.cell (p := ⟨wr.heap.size, 4, none⟩) (by simp), World.cell?_alloc_at (hn := rfl)]; rfl
      have HB2 := Lib.hid ((HB.out.alloc HB.out.size (kbox x)).trans (hb2.mono (by have := HB.out.size; simp; omega)))
      have HO2 := Lib.hid (own_below (HOWN.out.alloc _) hb2)
      clear hb2
      by_cases h1 : (takesS cs x.value).length = 0
      · rw [h1]
        have hso : underB cs x = true := by rw [HSO.out, h1]; rfl
        have HE := Lib.hid (HYES.out hso)
        clear h1 hso
        go_wp2_with (at_builtin; refine wpList_app rfl (.tmp 23) (.tmp 26) 22 3 rfl w1.heap.size (.int .i64 0) 1 8 Tryz.underlying22 int_info rfl (by decide) V fn cv (ints (fl.map Kall.value)) rfl (HO2.out.alloc _) (some ⟨w2.heap.size, 0, none⟩) 1 1 (ints [x.value]) rfl (by simp) rfl (blk_new rfl).rd (ints_one _) (fn + 1) rfl (ints (fl.map Kall.value ++ [x.value])) (by simp [ints]) (by unfold maxLen; omega) (by omega) (Nat.le_trans HB2.out.size (by simp)) ?_; intro V3 cv3 w3 hown3 hg3 hb3)
        go_roundg (n - (k + 1))
        case measure => rw [HG.out]; omega
        case rel =>
          refine ⟨k + 1, V3, cv3, by omega, rfl, by go_num, ?_, ?_, (HB2.out.alloc HB2.out.size _).trans hb3⟩
          · rw [HE.out]; simp [HFN.out]
          · rw [HE.out]
            simp only [List.map_append, List.map_cons, List.map_nil, List.length_append, List.length_cons, List.length_nil, HFN.out]
            exact hown3
      · have hso : underB cs x = false := by rw [HSO.out]; simpa using h1
        have HE := Lib.hid (HNOO.out hso)
        generalize (takesS cs x.value).length = pn at *
        have t1 : ((pn : Int) == 0) = false := by simp; omega
        clear h1 hso
        go_wp2
        go_roundg (n - (k + 1))
        case measure => rw [HG.out]; omega
        case rel =>
          refine ⟨k + 1, V, cv, by omega, rfl, by go_num, ?_, ?_, HB2.out⟩
          · rw [HE.out, HFN.out]
          · rw [HE.out, HFN.out]; exact HO2.out
    · obtain rfl : k = n := by omega
      rw [List.take_of_length_le (by rw [HN.out]; omega)] at HOWN ⊢
      have HV := Lib.hid (show (underS cs).length = (l.filter (underB cs)).length by rw [HUD.out, List.length_map])
      generalize hfn : (l.filter (underB cs)).length = fn at *
      go_wp2
      go_ret
      refine ⟨V, cv, ?_, ?_, HB1.out.trans (HB.out.mono HB1.out.size)⟩
      · rw [HV.out]; rfl
      · rw [HV.out, HUD.out]; exact own_lower HOWN.out HB1.out.size

end Go.Proofs.YtieglgahfeecbaaGreatDoor

namespace Go.Proofs.YtieglgahfeecbaaGreatDoor
open Go.RowKit Go.Sort

def rundB (l : List Kall) (x : Kall) : Bool := sureB l x && decide ((takesS l x.value).length = 0)
def runderS (l : List Kall) : List Int := (l.filter (rundB l)).map Kall.value

end Go.Proofs.YtieglgahfeecbaaGreatDoor

namespace Go.Proofs.YtieglgahfeecbaaGreatDoor
open Go.RowKit Go.Sort

def moreB (l : List Kall) (v : Int) : Bool := !decide (((takesS l v).length : Int) < 2)

end Go.Proofs.YtieglgahfeecbaaGreatDoor

namespace Go.Proofs.YtieglgahfeecbaaGreatDoor
open Go.RowKit Go.Sort

/-- Was a value there all the while? -/
def thereB (l : List Kall) (x p : Kall) : Bool := decide (p.fin < x.beg) && !goneS l p.value x.fin

set_option maxHeartbeats 1000000 in
set_option maxRecDepth 100000 in
theorem denied1_any (A : Option Addr) (c : Nat) (l : List Kall) (x p : Kall) (bx bl : Nat) (w : World) (hl : l.length ≤ 1048576) (hbx : bx < w.heap.size) (hbl : bl < w.heap.size) (hR : Rd w A (rows l))
    (h0 : w.cell? ⟨bx, 0, none⟩ = some (.int .i64 x.beg)) (h1 : w.cell? ⟨bx, 1, none⟩ = some (.int .i64 x.fin)) (hc : w.cell? ⟨bl, 0, none⟩ = some (.slice A l.length c)) :
    Calls Tryz.prog 64 #[kallV p, .pointer (some ⟨bx, 0, none⟩), .pointer (some ⟨bl, 0, none⟩)] w fun e w' => e = .returned (.bool (thereB l x p)) ∧ Below w.heap.size w w' := by
  have HG := Lib.hid (fun W h => gone_any A c l p.value x.fin W hl h)
  have HR := Lib.hid hR
  unfold kallV
  clear hR
  generalize l.length = n at *
  have n1 : ¬ bx = w.heap.size := by omega
  have n2 : ¬ bl = w.heap.size := by omega
  have h0' : ∀ o, (w.alloc o).cell? ⟨bx, 0, none⟩ = some (.int .i64 x.beg) := fun o => by rw [World.cell?_alloc_lt _ _ _ (by exact hbx)]; exact h0
  have h1' : ∀ o, (w.alloc o).cell? ⟨bx, 1, none⟩ = some (.int .i64 x.fin) := fun o => by rw [World.cell?_alloc_lt _ _ _ (by exact hbx)]; exact h1
  have hc' : ∀ o, (w.alloc o).cell? ⟨bl, 0, none⟩ = some (.slice A n c) := fun o => by rw [World.cell?_alloc_lt _ _ _ (by exact hbl)]; exact hc
  by_cases hlt : p.fin < x.beg
  · have HE := Lib.hid (show thereB l x p = !goneS l p.value x.fin by simp [thereB, hlt])
    go_enter Tryz.func64, Tryz.ntmps64
    go_wp2_with fail
    refine (HG.out _ (HR.out.alloc _)).mono ?_
    rintro e w1 ⟨rfl, hb1⟩
    go_wp2
    go_ret
    exact ⟨ret_bool (by rw [HE.out]), ((Below.refl _ _).alloc (Nat.le_refl _) _).trans (hb1.mono (by simp))⟩
  · have HE := Lib.hid (show thereB l x p = false by simp [thereB, hlt])
    have t1 : decide (p.fin < x.beg) = false := by simpa using hlt
    go_enter Tryz.func64, Tryz.ntmps64
    go_wp2
    go_ret
    exact ⟨ret_bool (by rw [HE.out]), (Below.refl _ _).alloc (Nat.le_refl _) _⟩
theorem denied1_enters : Enters 64 := enters_of Tryz.func64 (by kernel_rfl) (by kernel_rfl)

def askB (x : Kall) : Bool := !x.put && !x.opn && x.code == 10
def denB (l : List Kall) (x : Kall) : Bool := askB x && (sureS l).any (thereB l x)
def deniedS (l : List Kall) : List Int := (l.filter (denB l)).map Kall.beg

set_option maxHeartbeats 8000000 in
set_option maxRecDepth 100000 in
theorem Denied_any (A : Option Addr) (c : Nat) (ns : List Nte) (w : World) (hl : ns.length ≤ 1048576) (hok : ThreadsOk ns) (hR : Rd w A (rows ns)) :
    Calls Tryz.prog 33 #[.slice A ns.length c] w (RetIntsO (deniedS (callsS ns)) w) := by
  have HC := Lib.hid (calls_any A c ns w hl hok hR)
  have HS := Lib.hid (fun B d W h1 h2 => sure_any A B c d ns W hl hok h1 h2)
  have HR := Lib.hid hR
  have hcl := calls_len ns
  clear hok hR
  generalize ns.length = nn at *
  generalize callsS ns = l at *
  have hsl := sure_len l
  have HUD : RowKit.Hid (deniedS l = (l.filter (denB l)).map Kall.beg) := Lib.hid rfl
  generalize hn : l.length = n at *
  have HN := Lib.hid hn
  clear hn
  go_enter Tryz.func33, Tryz.ntmps33
  go_wp2_with fail
  refine HC.out.mono ?_
  rintro e w0 ⟨L, cl, rfl, hrd0, _, _, hb0⟩
  rw [HN.out]
  have HRD0 := Lib.hid hrd0
  have HB0 := Lib.hid hb0
  clear hrd0 hb0
  go_wp2_with fail
  refine (HS.out L cl _ ((HR.out.below HB0.out).alloc _) (HRD0.out.alloc _)).mono ?_
  rintro e w1 ⟨S1, cs1, rfl, hrdS, _, _, hb1⟩
  have hcx : w1.cell? ⟨w0.heap.size, 0, none⟩ = some (.slice L n cl) := by
    rw [hb1.cell (p := ⟨w0.heap.size, 0, none⟩) (by simp)]; simp
  have hs1 : w0.heap.size < w1.heap.size := by have := hb1.size; simp at this; omega
  have HRS := Lib.hid hrdS
  have HRD := Lib.hid ((HRD0.out.alloc (.cells #[.slice L n cl] 101)).below hb1)
  have HB1 := Lib.hid ((HB0.out.alloc HB0.out.size (.cells #[.slice L n cl] 101)).trans (hb1.mono (by have := HB0.out.size; simp; omega)))
  have HCX := Lib.hid hcx
  clear hrdS hb1
  generalize hsn : (sureS l).length = sn at *
  have HSN := Lib.hid hsn
  clear hsn
  go_wp2
  clear hcx
  go_loopg [5, 15] n (fun g v i wr => ∃ (k : Nat) (V : Option Addr) (cv : Nat), k ≤ n ∧ g = n - k ∧ i = .int .i64 k ∧ v = .slice V ((l.take k).filter (denB l)).length cv ∧ wr.ownsRow w1.heap.size 3 1 (.slice V ((l.take k).filter (denB l)).length cv) ((l.take k).filter (denB l)).length (ints (((l.take k).filter (denB l)).map Kall.beg)) ∧ Below w1.heap.size w1 wr)
  case atStart => exact ⟨0, none, 0, Nat.zero_le _, rfl, rfl, rfl, own_nil _ _ _ _, Below.refl _ _⟩
  case round =>
    obtain ⟨k, V, cv, hk, hg, rfl, rfl, hown, hb⟩ := hrel
    have HG := Lib.hid hg
    have HB := Lib.hid hb
    have HOWN := Lib.hid hown
    have hfl := ints_len_filter l (denB l) k
    clear hg hb hown
    by_cases hlt : k < n
    · have hkl : k < l.length := by rw [HN.out]; exact hlt
      obtain ⟨b, o, rfl, hbl, hc⟩ := HRD.out.at_ (by rw [rows_length]; exact Nat.mul_pos (by omega) (by decide))
      have hcr : ∀ j v, (rows l)[j]? = some v → wr.cell? ⟨b, o + j, none⟩ = some v := fun j v hj => by
        rw [HB.out.cell (p := ⟨b, o + j, none⟩) hbl]; exact hc j v hj
      generalize hx : l.getD k Kall.none = x
      obtain ⟨c0, c1, c2, c3, c4, c5⟩ := kall_cells hcr hkl hx
      have HSO : RowKit.Hid (denB l x = (askB x && (sureS l).any (thereB l x))) := Lib.hid rfl
      have HAS : RowKit.Hid (askB x = (!x.put && !x.opn && x.code == 10)) := Lib.hid rfl
      have HYES := Lib.hid (fun h => filter_take_yes (p := denB l) (d := Kall.none) hkl h)
      have HNOO := Lib.hid (fun h => filter_take_no (p := denB l) (d := Kall.none) hkl h)
      rw [hx] at HYES HNOO
      clear hc hcr hx hkl
      generalize (l.take k).filter (denB l) = fl at *
      generalize hfn : fl.length = fn at *
      have HFN := Lib.hid hfn
      clear hfn
      have q1 : (0 : Int) ≤ (k : Int) := by omega
      have q2 : (k : Int) < (n : Int) := by omega
      have HB2 := Lib.hid (HB.out.alloc HB.out.size (kbox x))
      have HO2 := Lib.hid (HOWN.out.alloc (kbox x))
      have HBX : RowKit.Hid (∀ j v, x.cells[j]? = some v → (wr.alloc (kbox x)).cell? ⟨wr.heap.size, j, none⟩ = some v) := Lib.hid (fun j v hj => by
        rw [World.cell?_alloc_at (hn := rfl), ← hj]; simp [Kall.cells])
      have hgo : wr.heap.size < (wr.alloc (kbox x)).heap.size := by simp
      have hgs : w1.heap.size ≤ wr.heap.size := HB.out.size
      have HNEXT : RowKit.Hid (∀ (w3 : World), denB l x = false → w3.ownsRow w1.heap.size 3 1 (.slice V fn cv) fn (ints (fl.map Kall.beg)) → Below w1.heap.size w1 w3 →
          ∃ (k' : Nat) (V' : Option Addr) (cv' : Nat), k' ≤ n ∧ n - (k + 1) = n - k' ∧ Value.int .i64 ((k : Int) + 1) = .int .i64 k' ∧ Value.slice V fn cv = .slice V' ((l.take k').filter (denB l)).length cv' ∧ w3.ownsRow w1.heap.size 3 1 (.slice V' ((l.take k').filter (denB l)).length cv') ((l.take k').filter (denB l)).length (ints (((l.take k').filter (denB l)).map Kall.beg)) ∧ Below w1.heap.size w1 w3) := Lib.hid (by
        intro w3 hf ho hb
        refine ⟨k + 1, V, cv, by omega, rfl, by go_num, ?_, ?_, hb⟩
        · rw [HNOO.out hf, HFN.out]
        · rw [HNOO.out hf, HFN.out]; exact ho)
      go_upto_region 7 with (fail)
      have b0 := HBX.out 0 _ rfl
      have b1 := HBX.out 1 _ rfl
      have b2 := HBX.out 2 _ rfl
      have b3 := HBX.out 3 _ rfl
      have b5 := HBX.out 5 _ rfl
      clear c0 c1 c2 c3 c4 c5 HBX
      generalize wr.alloc (kbox x) = wo at *
      generalize wr.heap.size = gb at *
      cases has : askB x
      · have hfb : denB l x = false := by rw [HSO.out, has]; rfl
        have HFB := Lib.hid hfb
        rw [HAS.out] at has
        clear hfb
        cases hp : x.put <;> cases ho : x.opn <;> rw [hp, ho] at has
        · rw [hp] at b3
          rw [ho] at b2
          have t1 : (x.code != 10) = true := by simpa using has
          clear has
          go_wp2
          go_roundg (n - (k + 1))
          case measure => rw [HG.out]; omega
          case rel => exact HNEXT.out _ HFB.out HO2.out HB2.out
        all_goals
          rw [hp] at b3
          rw [ho] at b2
          clear has
          go_wp2
          go_roundg (n - (k + 1))
          case measure => rw [HG.out]; omega
          case rel => exact HNEXT.out _ HFB.out HO2.out HB2.out
      · have HA2 := Lib.hid has
        rw [HAS.out] at has
        simp only [Bool.and_eq_true, Bool.not_eq_true', beq_iff_eq] at has
        obtain ⟨⟨hp, ho⟩, hcd⟩ := has
        rw [hp] at b3
        rw [ho] at b2
        have t1 : (x.code != 10) = false := by simp [hcd]
        have HH := Lib.hid (HasK_any S1 cs1 (sureS l) 64 #[.pointer (some ⟨gb, 0, none⟩), .pointer (some ⟨w0.heap.size, 0, none⟩)] (thereB l x) wo (by rw [HSN.out]; unfold maxLen; omega) (HRS.out.below HB2.out) denied1_enters (by
          intro p _ w' hb'
          have hsz := hb'.size
          exact denied1_any (some ⟨b, o, none⟩) cl l x p gb w0.heap.size w' (by rw [HN.out]; omega) (by omega) (by omega) ((HRD.out.below HB2.out).below hb') (by rw [hb'.cell (p := ⟨gb, 0, none⟩) hgo]; exact b0) (by rw [hb'.cell (p := ⟨gb, 1, none⟩) hgo]; exact b1) (by
            rw [hb'.cell (p := ⟨w0.heap.size, 0, none⟩) (by show w0.heap.size < wo.heap.size; omega), HB2.out.cell (p := ⟨w0.heap.size, 0, none⟩) hs1, HN.out]; exact HCX.out)))
        rw [HSN.out] at HH
        clear hp ho hcd
        cases han : (sureS l).any (thereB l x)
        · rw [han] at HH
          have HFB := Lib.hid (show denB l x = false by rw [HSO.out, HA2.out, han]; rfl)
          go_wp2_with fail
          refine HH.out.mono ?_
          rintro e w3 ⟨rfl, hb3⟩
          go_wp2
          go_roundg (n - (k + 1))
          case measure => rw [HG.out]; omega
          case rel => exact HNEXT.out _ HFB.out (own_below HO2.out hb3) (HB2.out.trans (hb3.mono HB2.out.size))
        · rw [han] at HH
          have HE := Lib.hid (HYES.out (show denB l x = true by rw [HSO.out, HA2.out, han]; rfl))
          go_wp2_with fail
          refine HH.out.mono ?_
          rintro e w3 ⟨rfl, hb3⟩
          have hbx : w3.cell? ⟨gb, 0, none⟩ = some (.int .i64 x.beg) := by rw [hb3.cell (p := ⟨gb, 0, none⟩) hgo]; exact b0
          have HB3 := Lib.hid (HB2.out.trans (hb3.mono HB2.out.size))
          have HO3 := Lib.hid (own_below HO2.out hb3)
          clear hb3
          go_wp2_with (at_builtin; refine wpList_app rfl (.tmp 33) (.tmp 36) 22 3 rfl w1.heap.size (.int .i64 0) 1 8 Tryz.underlying22 int_info rfl (by decide) V fn cv (ints (fl.map Kall.beg)) rfl (HO3.out.alloc _) (some ⟨w3.heap.size, 0, none⟩) 1 1 (ints [x.beg]) rfl (by simp) rfl (blk_new rfl).rd (ints_one _) (fn + 1) rfl (ints (fl.map Kall.beg ++ [x.beg])) (by simp [ints]) (by unfold maxLen; omega) (by omega) (Nat.le_trans HB3.out.size (by simp)) ?_; intro V3 cv3 w4 hown3 hg3 hb4)
          go_roundg (n - (k + 1))
          case measure => rw [HG.out]; omega
          case rel =>
            refine ⟨k + 1, V3, cv3, by omega, rfl, by go_num, ?_, ?_, (HB3.out.alloc HB3.out.size _).trans hb4⟩
            · rw [HE.out]; simp [HFN.out]
            · rw [HE.out]
              simp only [List.map_append, List.map_cons, List.map_nil, List.length_append, List.length_cons, List.length_nil, HFN.out]
              exact hown3
    · obtain rfl : k = n := by omega
      rw [List.take_of_length_le (by rw [HN.out]; omega)] at HOWN ⊢
      have HV := Lib.hid (show (deniedS l).length = (l.filter (denB l)).length by rw [HUD.out, List.length_map])
      generalize hfn : (l.filter (denB l)).length = fn at *
      go_wp2
      go_ret
      refine ⟨V, cv, ?_, ?_, HB1.out.trans (HB.out.mono HB1.out.size)⟩
      · rw [HV.out]; rfl
      · rw [HV.out, HUD.out]; exact own_lower HOWN.out HB1.out.size

end Go.Proofs.YtieglgahfeecbaaGreatDoor
