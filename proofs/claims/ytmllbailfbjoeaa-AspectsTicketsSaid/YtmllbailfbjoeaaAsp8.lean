/- aspects: Denied. -/
import Derived.Test.YtmllbailfbjoeaaAsp7
namespace Go.Proofs.Ytmllbailfbjoeaa
open Go.RowKit Go.Sort

/-- Was a value there all the while? -/
def thereB (l : List Kall) (x p : Kall) : Bool := decide (p.fin < x.beg) && !goneS l p.value x.fin

set_option maxHeartbeats 1000000 in
set_option maxRecDepth 100000 in
theorem denied1_any (A : Option Addr) (c : Nat) (l : List Kall) (x p : Kall) (bx bl : Nat) (w : World) (hl : l.length ≤ 1048576) (hbx : bx < w.heap.size) (hbl : bl < w.heap.size) (hR : Rd w A (rows l))
    (h0 : w.cell? ⟨bx, 0, none⟩ = some (.int .i64 x.beg)) (h1 : w.cell? ⟨bx, 1, none⟩ = some (.int .i64 x.fin)) (hc : w.cell? ⟨bl, 0, none⟩ = some (.slice A l.length c)) :
    Calls Try.prog 87 #[kallV p, .pointer (some ⟨bx, 0, none⟩), .pointer (some ⟨bl, 0, none⟩)] w fun e w' => e = .returned (.bool (thereB l x p)) ∧ Below w.heap.size w w' := by
  have HG := Lib.hid (fun W h => gone_any A c l p.value x.fin W hl h)
  have HR := Lib.hid hR
  unfold kallV
  clear hR
  generalize l.length = n at *
  have n1 : ¬ bx = w.heap.size := by omega
  have n2 : ¬ bl = w.heap.size := by omega
  have h0' : ∀ o, (w.alloc o).cell? ⟨bx, 0, none⟩ = some (.int .i64 x.beg) := fun o => by rw [World.cell?_alloc_lt _ _ _ (by exact hbx)]; exact h0
  have h1' : ∀ o, (w.alloc o).cell? ⟨bx, 1, none⟩ = some (.int .i64 x.fin) := fun o => by rw [World.cell?_alloc_lt _ _ _ (by exact hbx)]; exact h1
  have hc' : ∀ o, (w.alloc o).cell? ⟨bl, 0, none⟩ = some (.slice A n c) := fun o => by rw [World.cell?_alloc_lt _ _ _ (by exact hbl)]; exact hc
  by_cases hlt : p.fin < x.beg
  · have HE := Lib.hid (show thereB l x p = !goneS l p.value x.fin by simp [thereB, hlt])
    go_enter Try.func87, Try.ntmps87
    go_wp2_with fail
    refine (HG.out _ (HR.out.alloc _)).mono ?_
    rintro e w1 ⟨rfl, hb1⟩
    go_wp2
    go_ret
    exact ⟨ret_bool (by rw [HE.out]), ((Below.refl _ _).alloc (Nat.le_refl _) _).trans (hb1.mono (by simp))⟩
  · have HE := Lib.hid (show thereB l x p = false by simp [thereB, hlt])
    have t1 : decide (p.fin < x.beg) = false := by simpa using hlt
    go_enter Try.func87, Try.ntmps87
    go_wp2
    go_ret
    exact ⟨ret_bool (by rw [HE.out]), (Below.refl _ _).alloc (Nat.le_refl _) _⟩
theorem denied1_enters : Enters 87 := enters_of Try.func87 (by kernel_rfl) (by kernel_rfl)

def askB (x : Kall) : Bool := !x.put && !x.opn && x.code == 10
def denB (l : List Kall) (x : Kall) : Bool := askB x && (sureS l).any (thereB l x)
def deniedS (l : List Kall) : List Int := (l.filter (denB l)).map Kall.beg

set_option maxHeartbeats 8000000 in
set_option maxRecDepth 100000 in
theorem Denied_any (A : Option Addr) (c : Nat) (ns : List Nte) (w : World) (hl : ns.length ≤ 1048576) (hok : ThreadsOk ns) (hR : Rd w A (rows ns)) :
    Calls Try.prog 40 #[.slice A ns.length c] w (RetIntsO (deniedS (callsS ns)) w) := by
  have HC := Lib.hid (calls_any A c ns w hl hok hR)
  have HS := Lib.hid (fun B d W h1 h2 => sure_any A B c d ns W hl hok h1 h2)
  have HR := Lib.hid hR
  have hcl := calls_len ns
  clear hok hR
  generalize ns.length = nn at *
  generalize callsS ns = l at *
  have hsl := sure_len l
  have HUD : RowKit.Hid (deniedS l = (l.filter (denB l)).map Kall.beg) := Lib.hid rfl
  generalize hn : l.length = n at *
  have HN := Lib.hid hn
  clear hn
  go_enter Try.func40, Try.ntmps40
  go_wp2_with fail
  refine HC.out.mono ?_
  rintro e w0 ⟨L, cl, rfl, hrd0, _, _, hb0⟩
  rw [HN.out]
  have HRD0 := Lib.hid hrd0
  have HB0 := Lib.hid hb0
  clear hrd0 hb0
  go_wp2_with fail
  refine (HS.out L cl _ ((HR.out.below HB0.out).alloc _) (HRD0.out.alloc _)).mono ?_
  rintro e w1 ⟨S1, cs1, rfl, hrdS, _, _, hb1⟩
  have hcx : w1.cell? ⟨w0.heap.size, 0, none⟩ = some (.slice L n cl) := by
    rw [hb1.cell (p := ⟨w0.heap.size, 0, none⟩) (by simp)]; simp
  have hs1 : w0.heap.size < w1.heap.size := by have := hb1.size; simp at this; omega
  have HRS := Lib.hid hrdS
  have HRD := Lib.hid ((HRD0.out.alloc (.cells #[.slice L n cl] 78)).below hb1)
  have HB1 := Lib.hid ((HB0.out.alloc HB0.out.size (.cells #[.slice L n cl] 78)).trans (hb1.mono (by have := HB0.out.size; simp; omega)))
  have HCX := Lib.hid hcx
  clear hrdS hb1
  generalize hsn : (sureS l).length = sn at *
  have HSN := Lib.hid hsn
  clear hsn
  go_wp2
  clear hcx
  go_loopg [5, 15] n (fun g v i wr => ∃ (k : Nat) (V : Option Addr) (cv : Nat), k ≤ n ∧ g = n - k ∧ i = .int .i64 k ∧ v = .slice V ((l.take k).filter (denB l)).length cv ∧ wr.ownsRow w1.heap.size 3 1 (.slice V ((l.take k).filter (denB l)).length cv) ((l.take k).filter (denB l)).length (ints (((l.take k).filter (denB l)).map Kall.beg)) ∧ Below w1.heap.size w1 wr)
  case atStart => exact ⟨0, none, 0, Nat.zero_le _, rfl, rfl, rfl, own_nil _ _ _ _, Below.refl _ _⟩
  case round =>
    obtain ⟨k, V, cv, hk, hg, rfl, rfl, hown, hb⟩ := hrel
    have HG := Lib.hid hg
    have HB := Lib.hid hb
    have HOWN := Lib.hid hown
    have hfl := ints_len_filter l (denB l) k
    clear hg hb hown
    by_cases hlt : k < n
    · have hkl : k < l.length := by rw [HN.out]; exact hlt
      obtain ⟨b, o, rfl, hbl, hc⟩ := HRD.out.at_ (by rw [rows_length]; exact Nat.mul_pos (by omega) (by decide))
      have hcr : ∀ j v, (rows l)[j]? = some v → wr.cell? ⟨b, o + j, none⟩ = some v := fun j v hj => by
        rw [HB.out.cell (p := ⟨b, o + j, none⟩) hbl]; exact hc j v hj
      generalize hx : l.getD k Kall.none = x
      obtain ⟨c0, c1, c2, c3, c4, c5⟩ := kall_cells hcr hkl hx
      have HSO : RowKit.Hid (denB l x = (askB x && (sureS l).any (thereB l x))) := Lib.hid rfl
      have HAS : RowKit.Hid (askB x = (!x.put && !x.opn && x.code == 10)) := Lib.hid rfl
      have HYES := Lib.hid (fun h => filter_take_yes (p := denB l) (d := Kall.none) hkl h)
      have HNOO := Lib.hid (fun h => filter_take_no (p := denB l) (d := Kall.none) hkl h)
      rw [hx] at HYES HNOO
      clear hc hcr hx hkl
      generalize (l.take k).filter (denB l) = fl at *
      generalize hfn : fl.length = fn at *
      have HFN := Lib.hid hfn
      clear hfn
      have q1 : (0 : Int) ≤ (k : Int) := by omega
      have q2 : (k : Int) < (n : Int) := by omega
      have HB2 := Lib.hid (HB.out.alloc HB.out.size (kbox x))
      have HO2 := Lib.hid (HOWN.out.alloc (kbox x))
      have HBX : RowKit.Hid (∀ j v, x.cells[j]? = some v → (wr.alloc (kbox x)).cell? ⟨wr.heap.size, j, none⟩ = some v) := Lib.hid (fun j v hj => by
        rw [World.cell?_alloc_at (hn := rfl), ← hj]; simp [Kall.cells])
      have hgo : wr.heap.size < (wr.alloc (kbox x)).heap.size := by simp
      have hgs : w1.heap.size ≤ wr.heap.size := HB.out.size
      have HNEXT : RowKit.Hid (∀ (w3 : World), denB l x = false → w3.ownsRow w1.heap.size 3 1 (.slice V fn cv) fn (ints (fl.map Kall.beg)) → Below w1.heap.size w1 w3 →
          ∃ (k' : Nat) (V' : Option Addr) (cv' : Nat), k' ≤ n ∧ n - (k + 1) = n - k' ∧ Value.int .i64 ((k : Int) + 1) = .int .i64 k' ∧ Value.slice V fn cv = .slice V' ((l.take k').filter (denB l)).length cv' ∧ w3.ownsRow w1.heap.size 3 1 (.slice V' ((l.take k').filter (denB l)).length cv') ((l.take k').filter (denB l)).length (ints (((l.take k').filter (denB l)).map Kall.beg)) ∧ Below w1.heap.size w1 w3) := Lib.hid (by
        intro w3 hf ho hb
        refine ⟨k + 1, V, cv, by omega, rfl, by go_num, ?_, ?_, hb⟩
        · rw [HNOO.out hf, HFN.out]
        · rw [HNOO.out hf, HFN.out]; exact ho)
      go_upto_region 7 with (fail)
      have b0 := HBX.out 0 _ rfl
      have b1 := HBX.out 1 _ rfl
      have b2 := HBX.out 2 _ rfl
      have b3 := HBX.out 3 _ rfl
      have b5 := HBX.out 5 _ rfl
      clear c0 c1 c2 c3 c4 c5 HBX
      generalize wr.alloc (kbox x) = wo at *
      generalize wr.heap.size = gb at *
      cases has : askB x
      · have hfb : denB l x = false := by rw [HSO.out, has]; rfl
        have HFB := Lib.hid hfb
        rw [HAS.out] at has
        clear hfb
        cases hp : x.put <;> cases ho : x.opn <;> rw [hp, ho] at has
        · rw [hp] at b3
          rw [ho] at b2
          have t1 : (x.code != 10) = true := by simpa using has
          clear has
          go_wp2
          go_roundg (n - (k + 1))
          case measure => rw [HG.out]; omega
          case rel => exact HNEXT.out _ HFB.out HO2.out HB2.out
        all_goals
          rw [hp] at b3
          rw [ho] at b2
          clear has
          go_wp2
          go_roundg (n - (k + 1))
          case measure => rw [HG.out]; omega
          case rel => exact HNEXT.out _ HFB.out HO2.out HB2.out
      · have HA2 := Lib.hid has
        rw [HAS.out] at has
        simp only [Bool.and_eq_true, Bool.not_eq_true', beq_iff_eq] at has
        obtain ⟨⟨hp, ho⟩, hcd⟩ := has
        rw [hp] at b3
        rw [ho] at b2
        have t1 : (x.code != 10) = false := by simp [hcd]
        have HH := Lib.hid (HasK_any S1 cs1 (sureS l) 87 #[.pointer (some ⟨gb, 0, none⟩), .pointer (some ⟨w0.heap.size, 0, none⟩)] (thereB l x) wo (by rw [HSN.out]; unfold maxLen; omega) (HRS.out.below HB2.out) denied1_enters (by
          intro p _ w' hb'
          have hsz := hb'.size
          exact denied1_any (some ⟨b, o, none⟩) cl l x p gb w0.heap.size w' (by rw [HN.out]; omega) (by omega) (by omega) ((HRD.out.below HB2.out).below hb') (by rw [hb'.cell (p := ⟨gb, 0, none⟩) hgo]; exact b0) (by rw [hb'.cell (p := ⟨gb, 1, none⟩) hgo]; exact b1) (by
            rw [hb'.cell (p := ⟨w0.heap.size, 0, none⟩) (by show w0.heap.size < wo.heap.size; omega), HB2.out.cell (p := ⟨w0.heap.size, 0, none⟩) hs1, HN.out]; exact HCX.out)))
        rw [HSN.out] at HH
        clear hp ho hcd
        cases han : (sureS l).any (thereB l x)
        · rw [han] at HH
          have HFB := Lib.hid (show denB l x = false by rw [HSO.out, HA2.out, han]; rfl)
          go_wp2_with fail
          refine HH.out.mono ?_
          rintro e w3 ⟨rfl, hb3⟩
          go_wp2
          go_roundg (n - (k + 1))
          case measure => rw [HG.out]; omega
          case rel => exact HNEXT.out _ HFB.out (own_below HO2.out hb3) (HB2.out.trans (hb3.mono HB2.out.size))
        · rw [han] at HH
          have HE := Lib.hid (HYES.out (show denB l x = true by rw [HSO.out, HA2.out, han]; rfl))
          go_wp2_with fail
          refine HH.out.mono ?_
          rintro e w3 ⟨rfl, hb3⟩
          have hbx : w3.cell? ⟨gb, 0, none⟩ = some (.int .i64 x.beg) := by rw [hb3.cell (p := ⟨gb, 0, none⟩) hgo]; exact b0
          have HB3 := Lib.hid (HB2.out.trans (hb3.mono HB2.out.size))
          have HO3 := Lib.hid (own_below HO2.out hb3)
          clear hb3
          go_wp2_with (at_builtin; refine wpList_app rfl (.tmp 33) (.tmp 36) 22 3 rfl w1.heap.size (.int .i64 0) 1 8 Try.underlying22 int_info rfl (by decide) V fn cv (ints (fl.map Kall.beg)) rfl (HO3.out.alloc _) (some ⟨w3.heap.size, 0, none⟩) 1 1 (ints [x.beg]) rfl (by simp) rfl (blk_new rfl).rd (ints_one _) (fn + 1) rfl (ints (fl.map Kall.beg ++ [x.beg])) (by simp [ints]) (by unfold maxLen; omega) (by omega) (Nat.le_trans HB3.out.size (by simp)) ?_; intro V3 cv3 w4 hown3 hg3 hb4)
          go_roundg (n - (k + 1))
          case measure => rw [HG.out]; omega
          case rel =>
            refine ⟨k + 1, V3, cv3, by omega, rfl, by go_num, ?_, ?_, (HB3.out.alloc HB3.out.size _).trans hb4⟩
            · rw [HE.out]; simp [HFN.out]
            · rw [HE.out]
              simp only [List.map_append, List.map_cons, List.map_nil, List.length_append, List.length_cons, List.length_nil, HFN.out]
              exact hown3
    · obtain rfl : k = n := by omega
      rw [List.take_of_length_le (by rw [HN.out]; omega)] at HOWN ⊢
      have HV := Lib.hid (show (deniedS l).length = (l.filter (denB l)).length by rw [HUD.out, List.length_map])
      generalize hfn : (l.filter (denB l)).length = fn at *
      go_wp2
      go_ret
      refine ⟨V, cv, ?_, ?_, HB1.out.trans (HB.out.mono HB1.out.size)⟩
      · rw [HV.out]; rfl
      · rw [HV.out, HUD.out]; exact own_lower HOWN.out HB1.out.size

end Go.Proofs.Ytmllbailfbjoeaa
