/- The document's gone and sure. -/
import Derived.Test.YtmllbailfbjoeaaRef43b
namespace Go.Proofs.Ytmllbailfbjoeaa
open Go.RowKit Go.Sort

set_option maxHeartbeats 4000000 in
set_option maxRecDepth 100000 in
theorem rgone_any (A : Option Addr) (c : Nat) (l : List Kall) (v till : Int) (w : World) (hl : l.length ≤ 1048576) (hR : Rd w A (rows l)) :
    Calls Try.prog 76 #[.slice A l.length c, .int .i64 v, .int .i64 till] w fun e w' => e = .returned (.bool (goneS l v till)) ∧ Below w.heap.size w w' := by
  have HR := Lib.hid hR
  have HT := Lib.hid (took_any A c l v w hl hR)
  clear hR
  have HGS : RowKit.Hid (goneS l v till = match takesS l v with | t :: _ => decide (t.beg ≤ till) | [] => l.any (openTake till)) := Lib.hid rfl
  generalize hn : l.length = n at *
  have HN := Lib.hid hn
  clear hn
  go_enter Try.func76, Try.ntmps76
  go_wp2_with fail
  refine HT.out.mono ?_
  rintro e w1 ⟨rfl, hb1⟩
  have HB1 := Lib.hid hb1
  clear hb1
  cases htk : takesS l v with
  | cons t r =>
    have HG := Lib.hid (show goneS l v till = decide (t.beg ≤ till) by rw [HGS.out, htk])
    have hh : headK (t :: r) = t := rfl
    rw [hh]
    generalize htm : (t :: r).length = tm
    have htm1 : (0 : Int) < (tm : Int) := by rw [← htm]; simp
    have htm2 : 0 < tm := by omega
    clear htk htm hh
    go_wp2
    go_ret
    exact ⟨ret_bool HG.out.symm, HB1.out.alloc HB1.out.size _⟩
  | nil =>
    have HG := Lib.hid (show goneS l v till = l.any (openTake till) by rw [HGS.out, htk])
    rw [show headK [] = Kall.none from rfl]
    simp only [List.length_nil]
    clear htk
    have HB2 := Lib.hid (HB1.out.alloc HB1.out.size (rkbox Kall.none))
    go_wp2
    go_loopg [25] n (fun g i wr => ∃ (k : Nat), k ≤ n ∧ g = n - k ∧ i = .int .i64 k ∧ (∀ j, j < k → openTake till (l.getD j Kall.none) = false) ∧ Below w.heap.size w wr)
    case atStart => exact ⟨0, Nat.zero_le _, rfl, rfl, fun j hj => absurd hj (by omega), HB2.out⟩
    case round =>
      obtain ⟨k, hk, hg, rfl, hno, hb⟩ := hrel
      have HGG := Lib.hid hg
      have HB := Lib.hid hb
      have HNO := Lib.hid hno
      clear hg hb hno
      by_cases hlt : k < n
      · have hkl : k < l.length := by rw [HN.out]; exact hlt
        obtain ⟨b, o, rfl, hbl, hc⟩ := HR.out.at_ (by rw [rows_length]; exact Nat.mul_pos (by omega) (by decide))
        have hcr : ∀ j u, (rows l)[j]? = some u → wr.cell? ⟨b, o + j, none⟩ = some u := fun j u hj => by
          rw [HB.out.cell (p := ⟨b, o + j, none⟩) hbl]; exact hc j u hj
        generalize hx : l.getD k Kall.none = x at *
        obtain ⟨c0, c1, c2, c3, c4, c5⟩ := kall_cells hcr hkl hx
        have HX := Lib.hid hx
        clear hc hcr hx hkl
        have q1 : (0 : Int) ≤ (k : Int) := by omega
        have q2 : (k : Int) < (n : Int) := by omega
        have HOT : RowKit.Hid (openTake till x = (!x.put && x.opn && decide (x.beg ≤ till))) := Lib.hid rfl
        have HNEXT : RowKit.Hid (∀ w3 : World, openTake till x = false → Below w.heap.size w w3 → ∃ (k' : Nat), k' ≤ n ∧ n - (k + 1) = n - k' ∧ Value.int .i64 ((k : Int) + 1) = .int .i64 k' ∧ (∀ j, j < k' → openTake till (l.getD j Kall.none) = false) ∧ Below w.heap.size w w3) := Lib.hid (by
          intro w3 ho hb
          refine ⟨k + 1, by omega, rfl, by go_num, fun j hj => ?_, hb⟩
          by_cases hjk : j = k
          · subst hjk; rw [HX.out]; exact ho
          · exact HNO.out j (by omega))
        cases ho : x.opn <;> cases hp : x.put
        case true.false =>
          rw [ho] at c2
          rw [hp] at c3
          by_cases hle : x.beg ≤ till
          · have t1 : decide (x.beg ≤ till) = true := by simpa using hle
            go_wp2
            go_ret
            refine ⟨ret_bool ?_, HB.out.alloc HB.out.size _⟩
            rw [HG.out]
            symm
            rw [List.any_eq_true]
            exact ⟨x, by rw [← HX.out]; simp [List.getD, HN.out, hlt], by rw [HOT.out, ho, hp, t1]; rfl⟩
          · have t1 : decide (x.beg ≤ till) = false := by simpa using hle
            go_wp2
            go_roundg (n - (k + 1))
            case measure => rw [HGG.out]; omega
            case rel => exact HNEXT.out _ (by rw [HOT.out, ho, hp, t1]; rfl) (HB.out.alloc HB.out.size _)
        all_goals
          rw [ho] at c2
          rw [hp] at c3
          go_wp2
          go_roundg (n - (k + 1))
          case measure => rw [HGG.out]; omega
          case rel => exact HNEXT.out _ (by rw [HOT.out, ho, hp]; rfl) (HB.out.alloc HB.out.size _)
      · go_wp2
        go_ret
        refine ⟨ret_bool ?_, HB.out⟩
        rw [HG.out, eq_comm, List.any_eq_false]
        intro x hx
        obtain ⟨j, hj, rfl⟩ := List.getElem_of_mem hx
        have := HNO.out j (by have := HN.out; omega)
        simpa [List.getD, hj] using this

def sureB (l : List Kall) (x : Kall) : Bool := x.put && doneB x && decide ((putsS l x.value).length = 1)

set_option maxHeartbeats 1000000 in
set_option maxRecDepth 100000 in
theorem rsure_any (A : Option Addr) (c : Nat) (l : List Kall) (x : Kall) (w : World) (hl : l.length ≤ 1048576) (hR : Rd w A (rows l)) :
    Calls Try.prog 74 #[.slice A l.length c, kallV x] w fun e w' => e = .returned (.bool (sureB l x)) ∧ Below w.heap.size w w' := by
  have HD := Lib.hid (rwell_any x)
  have HT := Lib.hid (fun W h => tries_any A c l x.value W hl h)
  have HR := Lib.hid hR
  unfold kallV at HD ⊢
  clear hR
  generalize l.length = n at *
  cases hp : x.put
  · go_enter Try.func74, Try.ntmps74
    go_wp2
    go_ret
    exact ⟨ret_bool (by simp [sureB, hp]), (Below.refl _ _).alloc (Nat.le_refl _) _⟩
  · rw [hp] at HD
    cases hd : doneB x
    · rw [hd] at HD
      have HX := Lib.hid hd
      clear hd
      go_enter Try.func74, Try.ntmps74
      go_wp2_with fail
      refine (HD.out _).mono ?_
      rintro e w1 ⟨rfl, hb1⟩
      go_wp2
      go_ret
      exact ⟨ret_bool (by simp [sureB, HX.out]), ((Below.refl _ _).alloc (Nat.le_refl _) _).trans (hb1.mono (by simp))⟩
    · rw [hd] at HD
      have HX := Lib.hid hd
      clear hd
      go_enter Try.func74, Try.ntmps74
      go_wp2_with fail
      refine (HD.out _).mono ?_
      rintro e w1 ⟨rfl, hb1⟩
      have hv1 : w1.cell? ⟨w.heap.size, 4, none⟩ = some (.int .i64 x.value) := by
        rw [hb1.cell (p := ⟨w.heap.size, 4, none⟩) (by simp), World.cell?_alloc_at (hn := rfl)]; rfl
      have HB1 := Lib.hid (((Below.refl _ _).alloc (Nat.le_refl _) _).trans (hb1.mono (by simp)) : Below w.heap.size w w1)
      clear hb1
      go_wp2_with fail
      refine (HT.out _ (HR.out.below HB1.out)).mono ?_
      rintro e w2 ⟨rfl, hb2⟩
      have HS : RowKit.Hid (sureB l x = decide ((putsS l x.value).length = 1)) := Lib.hid (by simp [sureB, hp, HX.out])
      generalize (putsS l x.value).length = pn at *
      by_cases h1 : pn = 1
      · have t1 : ((pn : Int) == 1) = true := by simp [h1]
        have H1 := Lib.hid h1
        clear h1
        go_wp2
        go_ret
        exact ⟨ret_bool (by rw [HS.out, H1.out]; rfl), HB1.out.trans (hb2.mono HB1.out.size)⟩
      · have t1 : ((pn : Int) == 1) = false := by simp; omega
        have H1 := Lib.hid h1
        clear h1
        go_wp2
        go_ret
        exact ⟨ret_bool (by rw [HS.out]; simpa using H1.out), HB1.out.trans (hb2.mono HB1.out.size)⟩

end Go.Proofs.Ytmllbailfbjoeaa
