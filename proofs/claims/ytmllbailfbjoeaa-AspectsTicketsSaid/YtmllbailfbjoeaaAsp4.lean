/- aspects: Twice, sure. -/
import Derived.Test.YtmllbailfbjoeaaAsp3
namespace Go.Proofs.Ytmllbailfbjoeaa
open Go.RowKit Go.Sort

theorem takes_len (l : List Kall) (v : Int) : (takesS l v).length ≤ l.length := List.length_filter_le _ _

set_option maxHeartbeats 400000 in
theorem twice1_any (A : Option Addr) (c : Nat) (l : List Kall) (v : Int) (b : Nat) (w : World) (hl : l.length ≤ 1048576) (hR : Rd w A (rows l)) (hc : w.cell? ⟨b, 0, none⟩ = some (.slice A l.length c)) :
    Calls Try.prog 86 #[.int .i64 v, .pointer (some ⟨b, 0, none⟩)] w fun e w' => e = .returned (.bool (decide (((takesS l v).length : Int) < 2))) ∧ Below w.heap.size w w' := by
  have HT := Lib.hid (takes_any A c l v w hl hR)
  have htl := takes_len l v
  clear hR
  generalize l.length = n at *
  go_enter Try.func86, Try.ntmps86
  go_wp2_with fail
  refine HT.out.mono ?_
  rintro e w1 ⟨T, ct, rfl, _, _, _, hb1⟩
  generalize htn : (takesS l v).length = tn at *
  have HTN := Lib.hid htn
  clear htn
  go_wp2
  go_ret
  exact ⟨ret_bool (by rw [HTN.out]), hb1⟩
theorem twice1_enters : Enters 86 := enters_of Try.func86 (by kernel_rfl) (by kernel_rfl)

def twiceS (l : List Kall) : List Int := (valuesS l).filter fun v => !decide (((takesS l v).length : Int) < 2)

theorem values_len (l : List Kall) : (valuesS l).length ≤ l.length := by
  unfold valuesS
  rw [List.length_map]
  exact List.length_filter_le _ _

set_option maxHeartbeats 4000000 in
set_option maxRecDepth 100000 in
theorem Twice_any (A : Option Addr) (c : Nat) (ns : List Nte) (w : World) (hl : ns.length ≤ 1048576) (hok : ThreadsOk ns) (hR : Rd w A (rows ns)) :
    Calls Try.prog 39 #[.slice A ns.length c] w (RetIntsC (twiceS (callsS ns)) w) := by
  have HC := Lib.hid (calls_any A c ns w hl hok hR)
  have HV := Lib.hid (fun W h => Values_any A c ns W hl hok h)
  have HR := Lib.hid hR
  have hcl := calls_len ns
  clear hok hR
  generalize ns.length = nn at *
  generalize callsS ns = l at *
  have hvl := values_len l
  generalize hn : l.length = n at *
  have HN := Lib.hid hn
  clear hn
  go_enter Try.func39, Try.ntmps39
  go_wp2_with fail
  refine HC.out.mono ?_
  rintro e w1 ⟨L, cl, rfl, hrd, _, _, hb1⟩
  rw [HN.out]
  have HRD := Lib.hid hrd
  have HB1 := Lib.hid hb1
  clear hrd hb1
  go_wp2_with fail
  refine (HV.out _ ((HR.out.below HB1.out).alloc _)).mono ?_
  rintro e w2 ⟨V, cv, rfl, hown, hb2⟩
  have e1 : (w1.alloc (.cells #[.slice L n cl] 78)).heap.size = w1.heap.size + 1 := by simp
  rw [e1] at hown hb2
  have HO := Lib.hid hown
  have HB2 := Lib.hid hb2
  have hcx : w2.cell? ⟨w1.heap.size, 0, none⟩ = some (.slice L n cl) := by
    rw [hb2.cell (p := ⟨w1.heap.size, 0, none⟩) (by show w1.heap.size < w1.heap.size + 1; omega)]; simp
  have HCX := Lib.hid hcx
  have HD := Lib.hid (DelI_own V cv (w1.heap.size + 1) (valuesS l) 86 #[.pointer (some ⟨w1.heap.size, 0, none⟩)] (fun v => decide (((takesS l v).length : Int) < 2)) w2 (by omega) hown (by have := hb2.size; simpa using this) twice1_enters (by
    intro v _ w' hb'
    have hR' : Rd w' L (rows l) := ((HRD.out.alloc (.cells #[.slice L n cl] 78)).below (by rw [e1]; exact hb2.trans hb'))
    exact twice1_any L cl l v w1.heap.size w' (by rw [HN.out]; omega) hR' (by rw [hb'.cell (p := ⟨w1.heap.size, 0, none⟩) (by show w1.heap.size < w1.heap.size + 1; omega), HN.out]; exact HCX.out)))
  have hvc := own_le hown
  have HVN := Lib.hid (fun h => (own_none hown h).2.1)
  have htl := List.length_filter_le (fun v => !decide (((takesS l v).length : Int) < 2)) (valuesS l)
  have HTW : RowKit.Hid (twiceS l = (valuesS l).filter fun v => !decide (((takesS l v).length : Int) < 2)) := Lib.hid rfl
  clear hown hb2 e1 hcx
  generalize (valuesS l).filter (fun v => !decide (((takesS l v).length : Int) < 2)) = tw at *
  generalize (valuesS l).length = vn at *
  go_wp2_with fail
  refine HD.out.mono ?_
  rintro e w3 ⟨rfl, hr3, hb3⟩
  go_wp2
  go_ret
  refine ⟨V, cv, ?_, by rw [HTW.out]; exact hr3, by rw [HTW.out]; omega, HVN.out, ?_⟩
  · rw [HTW.out]; rfl
  · exact ((HB1.out.alloc HB1.out.size _).trans ((HB2.out.trans hb3).mono (by have := HB1.out.size; omega)))

set_option maxHeartbeats 1000000 in
set_option maxRecDepth 100000 in
theorem sure1_any (A : Option Addr) (c : Nat) (vs : List Int) (x : Kall) (b : Nat) (w : World) (hl : vs.length ≤ maxLen) (hb : b < w.heap.size) (hR : Rd w A (ints vs)) (hc : w.cell? ⟨b, 0, none⟩ = some (.slice A vs.length c)) :
    Calls Try.prog 108 #[kallV x, .pointer (some ⟨b, 0, none⟩)] w fun e w' => e = .returned (.bool (!x.put || !doneB x || !vs.contains x.value)) ∧ Below w.heap.size w w' := by
  have HD := Lib.hid (done_any x)
  have HH := Lib.hid (fun W h => HasI_any A c vs x.value W hl h)
  have HR := Lib.hid hR
  unfold kallV at HD ⊢
  clear hR hl
  generalize vs.length = n at *
  have hne : ¬ b = w.heap.size := by omega
  cases hp : x.put
  · go_enter Try.func108, Try.ntmps108
    go_wp2
    go_ret
    exact ⟨ret_bool (by simp), (Below.refl _ _).alloc (Nat.le_refl _) _⟩
  · rw [hp] at HD
    cases hd : doneB x
    all_goals
      rw [hd] at HD
      have HX := Lib.hid hd
      clear hd
      go_enter Try.func108, Try.ntmps108
      go_wp2_with fail
      refine (HD.out _).mono ?_
      rintro e w1 ⟨rfl, hb1⟩
      have hc1 : w1.cell? ⟨b, 0, none⟩ = some (.slice A n c) := by
        rw [hb1.cell (p := ⟨b, 0, none⟩) (by simp; omega), World.cell?_alloc_lt _ _ _ (by exact hb)]; exact hc
      have hv1 : w1.cell? ⟨w.heap.size, 4, none⟩ = some (.int .i64 x.value) := by
        rw [hb1.cell (p := ⟨w.heap.size, 4, none⟩) (by simp), World.cell?_alloc_at (hn := rfl)]; rfl
      have HB1 := Lib.hid (((Below.refl _ _).alloc (Nat.le_refl _) _).trans (hb1.mono (by simp)) : Below w.heap.size w w1)
      clear hb1
      first
        | (go_wp2_with (go_at_call 83; refine (HH.out _ (HR.out.below HB1.out)).mono ?_; rintro e w2 ⟨rfl, rfl⟩); go_ret; exact ⟨ret_bool (by simp), HB1.out⟩)
theorem sure1_enters : Enters 108 := enters_of Try.func108 (by kernel_rfl) (by kernel_rfl)

/-- Is a call no put that ended well, of a value that no other one tried to put? -/
def unsureB (vs : List Int) (x : Kall) : Bool := !x.put || !doneB x || !vs.contains x.value
def sureS (l : List Kall) : List Kall := l.filter fun x => !unsureB (valuesS l) x

set_option maxHeartbeats 4000000 in
set_option maxRecDepth 100000 in
theorem sure_any (A B : Option Addr) (c d : Nat) (ns : List Nte) (w : World) (hl : ns.length ≤ 1048576) (hok : ThreadsOk ns) (hR : Rd w A (rows ns)) (hL : Rd w B (rows (callsS ns))) :
    Calls Try.prog 70 #[.slice A ns.length c, .slice B (callsS ns).length d] w (RetRows (sureS (callsS ns)) w) := by
  have HV := Lib.hid (Values_any A c ns w hl hok hR)
  have HL := Lib.hid hL
  have hcl := calls_len ns
  clear hok hR hL
  generalize ns.length = nn at *
  generalize callsS ns = l at *
  have hvl := values_len l
  have HC := Lib.hid (fun W h => CloneK_any B l.length d (rows l) W (by omega) (by rw [rows_length]; rfl) (rows_one l) h)
  generalize hn : l.length = n at *
  have HN := Lib.hid hn
  clear hn
  go_enter Try.func70, Try.ntmps70
  go_wp2_with fail
  refine HV.out.mono ?_
  rintro e w1 ⟨V, cv, rfl, hown, hb1⟩
  have HRV := Lib.hid (own_rd hown)
  have HB1 := Lib.hid hb1
  clear hown hb1
  go_wp2_with fail
  refine (HC.out _ ((HL.out.below HB1.out).alloc _)).mono ?_
  rintro e w2 ⟨A2, c2, rfl, hown, hb2⟩
  have e1 : (w1.alloc (.cells #[.slice V (valuesS l).length cv] 22)).heap.size = w1.heap.size + 1 := by simp
  rw [e1] at hown hb2
  have HO := Lib.hid hown
  have HB2 := Lib.hid hb2
  have hcx : w2.cell? ⟨w1.heap.size, 0, none⟩ = some (.slice V (valuesS l).length cv) := by
    rw [hb2.cell (p := ⟨w1.heap.size, 0, none⟩) (by show w1.heap.size < w1.heap.size + 1; omega)]; simp
  have HCX := Lib.hid hcx
  have hs2 : w1.heap.size + 1 ≤ w2.heap.size := by have := hb2.size; simpa using this
  have HD := Lib.hid (DelK_own A2 c2 (w1.heap.size + 1) l 108 #[.pointer (some ⟨w1.heap.size, 0, none⟩)] (unsureB (valuesS l)) w2 (by rw [HN.out]; omega) (by rw [HN.out]; exact hown) hs2 sure1_enters (by
    intro x _ w' hb'
    have hR' : Rd w' V (ints (valuesS l)) := ((HRV.out.alloc (.cells #[.slice V (valuesS l).length cv] 22)).below (by rw [e1]; exact hb2.trans hb'))
    exact sure1_any V cv (valuesS l) x w1.heap.size w' (by unfold maxLen; omega) (by have := hb'.size; omega) hR' (by rw [hb'.cell (p := ⟨w1.heap.size, 0, none⟩) (by show w1.heap.size < w1.heap.size + 1; omega)]; exact HCX.out)))
  rw [HN.out] at HD
  have hvc := own_le hown
  have HVN := Lib.hid (fun h => (own_none hown h).2.1)
  have htl := List.length_filter_le (fun x => !unsureB (valuesS l) x) l
  have HSU : RowKit.Hid (sureS l = l.filter fun x => !unsureB (valuesS l) x) := Lib.hid rfl
  rw [HN.out] at htl
  clear hown hb2 e1 hcx
  generalize l.filter (fun x => !unsureB (valuesS l) x) = su at *
  generalize (valuesS l).length = vn at *
  go_wp2_with fail
  refine HD.out.mono ?_
  rintro e w3 ⟨rfl, hr3, hb3⟩
  go_wp2
  go_ret
  refine ⟨A2, c2, ?_, by rw [HSU.out]; exact hr3, by rw [HSU.out]; omega, HVN.out, ?_⟩
  · rw [HSU.out]; rfl
  · exact ((HB1.out.alloc HB1.out.size _).trans ((HB2.out.trans hb3).mono (by have := HB1.out.size; omega)))

end Go.Proofs.Ytmllbailfbjoeaa
