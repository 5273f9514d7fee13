/- The document's Counts. -/
import Derived.Test.YtmllbailfbjoeaaRef43i
import Derived.Test.YtmllbailfbjoeaaAsp6
namespace Go.Proofs.Ytmllbailfbjoeaa
open Go.RowKit Go.Sort

theorem Blk.cell_eq {w : World} {g : Nat} {t : TypeId} {cs : List Value} (h : Blk w g t cs) (i : Nat) : w.cell? ⟨g, i, none⟩ = cs[i]? := by
  unfold Blk at h
  simp [World.cell?, h]

abbrev three (a b c : Nat) : List Value := [.int .i64 (a : Int), .int .i64 (b : Int), .int .i64 (c : Int)]

theorem three_ne {w : World} {b o g : Nat} {t : TypeId} {l : List Kall} {p q r : Nat} (hc : ∀ k v, (rows l)[k]? = some v → w.cell? ⟨b, o + k, none⟩ = some v) (hl : 0 < l.length) (h : Blk w g t (three p q r)) : b ≠ g := by
  rintro rfl
  have c2 := (kall_cells hc hl rfl).2.2.1
  simp only [Nat.zero_mul, Nat.add_zero] at c2
  rw [h.cell_eq] at c2
  match o with
  | 0 => cases c2
  | 1 => cases c2
  | o + 2 => simp at c2

set_option maxHeartbeats 8000000 in
set_option maxRecDepth 100000 in
theorem rCounts_any (A : Option Addr) (c : Nat) (ns : List Nte) (w : World) (hl : ns.length ≤ 1048576) (hR : Rd w A (rows ns)) :
    Calls Try.prog 32 #[.slice A ns.length c] w fun e w' => e = .returned (.tuple #[.int .i64 ((putN (callsS ns) : Nat) : Int), .int .i64 ((tookN (callsS ns) : Nat) : Int), .int .i64 ((openN (callsS ns) : Nat) : Int)]) ∧ Below w.heap.size w w' := by
  have HC := Lib.hid (fun W h => rCalls_any A c ns W hl h)
  rw [← calls_same] at HC
  have HR := Lib.hid hR
  have hcl := calls_len ns
  clear hR
  generalize ns.length = nn at *
  generalize callsS ns = l at *
  generalize hn : l.length = n at *
  have HN := Lib.hid hn
  clear hn
  go_enter Try.func32, Try.ntmps32
  go_wp2_with fail
  refine (HC.out _ (HR.out.alloc _)).mono ?_
  rintro e w1 ⟨L, cl, rfl, hrd, _, _, hb1⟩
  rw [HN.out]
  have hbk : Blk w1 w.heap.size 94 (three 0 0 0) := (Blk.new w 94 (three 0 0 0)).below hb1 (by simp)
  have HBK0 := Lib.hid hbk
  have HRD := Lib.hid hrd
  have HB1 := Lib.hid (show Below w.heap.size w w1 from ((Below.refl _ _).alloc (Nat.le_refl _) _).trans (hb1.mono (by simp)))
  clear hrd hb1 hbk
  generalize hgg : w.heap.size = gg at *
  have HGG := Lib.hid hgg
  clear hgg
  go_wp2
  go_loopg [11] n (fun g i wr => ∃ (k : Nat), k ≤ n ∧ g = n - k ∧ i = .int .i64 k ∧ Blk wr gg 94 (three (putN (l.take k)) (tookN (l.take k)) (openN (l.take k))) ∧ Only gg w1 wr)
  case atStart => exact ⟨0, Nat.zero_le _, rfl, rfl, HBK0.out, Only.refl _ _⟩
  case round =>
    obtain ⟨k, hk, hg, rfl, hbk, hon⟩ := hrel
    have HG := Lib.hid hg
    have HON := Lib.hid hon
    have HBK := Lib.hid hbk
    have p1 := putN_le l k
    have p2 := tookN_le l k
    have p3 := openN_le l k
    clear hg hon hbk
    by_cases hlt : k < n
    · have hkl : k < l.length := by rw [HN.out]; exact hlt
      obtain ⟨b, o, rfl, hbl, hc⟩ := HRD.out.at_ (by rw [rows_length]; exact Nat.mul_pos (by omega) (by decide))
      have hbg := three_ne hc (by omega) HBK0.out
      have hcr : ∀ j v, (rows l)[j]? = some v → wr.cell? ⟨b, o + j, none⟩ = some v := fun j v hj => by
        rw [HON.out.cell (p := ⟨b, o + j, none⟩) hbl hbg]; exact hc j v hj
      have HS1 := Lib.hid (putN_step hkl)
      have HS2 := Lib.hid (tookN_step hkl)
      have HS3 := Lib.hid (openN_step hkl)
      generalize hx : l.getD k Kall.none = x at *
      obtain ⟨c0, c1, c2, c3, c4, c5⟩ := kall_cells hcr hkl hx
      clear hc hcr hx hkl
      generalize putN (l.take k) = pn at *
      generalize tookN (l.take k) = tn at *
      generalize openN (l.take k) = on at *
      have q1 : (0 : Int) ≤ (k : Int) := by omega
      have q2 : (k : Int) < (n : Int) := by omega
      have hgl := HBK.out.lt
      have hne : ¬ gg = wr.heap.size := by omega
      have hne2 : ¬ wr.heap.size = gg := by omega
      have f0 : wr.cell? ⟨gg, 0, none⟩ = some (.int .i64 (pn : Int)) := HBK.out.cell rfl
      have f1 : wr.cell? ⟨gg, 1, none⟩ = some (.int .i64 (tn : Int)) := HBK.out.cell rfl
      have f2 : wr.cell? ⟨gg, 2, none⟩ = some (.int .i64 (on : Int)) := HBK.out.cell rfl
      have g0 := HBK.out.frozen 0
      have g1 := HBK.out.frozen 1
      have g2 := HBK.out.frozen 2
      have HD := Lib.hid (rwell_any x)
      have HDO : RowKit.Hid (doneB x = (!x.opn && x.code == 0)) := Lib.hid rfl
      have HBB : RowKit.Hid (Blk (wr.alloc (rkbox x)) gg 94 (three pn tn on) ∧ Blk (wr.alloc (rkbox x)) wr.heap.size 88 x.cells ∧ Only gg w1 (wr.alloc (rkbox x))) := Lib.hid ⟨HBK.out.alloc _, Blk.new wr 88 x.cells, HON.out.alloc _⟩
      go_upto_region 5 with (fail)
      clear c0 c1 c2 c3 c4 c5 f0 f1 f2 g0 g1 g2 HBK HON
      generalize wr.alloc (rkbox x) = wo at *
      generalize wr.heap.size = gb at *
      have HNX : RowKit.Hid (∀ (w3 : World) (p' t' o' : Nat), Blk w3 gg 94 (three p' t' o') → Only gg w1 w3 → p' = pn + (if (doneB x && x.put) = true then 1 else 0) → t' = tn + (if (doneB x && !x.put) = true then 1 else 0) → o' = on + (if x.opn = true then 1 else 0) →
          ∃ (k' : Nat), k' ≤ n ∧ n - (k + 1) = n - k' ∧ Value.int .i64 ((k : Int) + 1) = .int .i64 k' ∧ Blk w3 gg 94 (three (putN (l.take k')) (tookN (l.take k')) (openN (l.take k'))) ∧ Only gg w1 w3) := Lib.hid (by
        intro w3 p' t' o' h1 h2 e1 e2 e3
        subst e1 e2 e3
        exact ⟨k + 1, by omega, rfl, by go_num, by rw [HS1.out, HS2.out, HS3.out]; exact h1, h2⟩)
      obtain ⟨hk1, hk2, hon⟩ := HBB.out
      have HON := Lib.hid hon
      have HK1 := Lib.hid hk1
      have HK2 := Lib.hid hk2
      have b2 := hk2.cell (i := 2) rfl
      clear hon hk1 hk2 HBB
      go_upto_if 16 with (fail)
      go_cut [] (fun wc => ∃ o' : Nat, o' = on + (if x.opn = true then 1 else 0) ∧ Blk wc gg 94 (three pn tn o') ∧ Blk wc gb 88 x.cells ∧ Only gg w1 wc)
      case first =>
        have f2 : wo.cell? ⟨gg, 2, none⟩ = some (.int .i64 (on : Int)) := HK1.out.cell rfl
        have g2 := HK1.out.frozen 2
        cases ho : x.opn
        · rw [ho] at b2
          go_wp2_with fail
          go_meet
          exact ⟨on, by simp [ho], HK1.out, HK2.out, HON.out⟩
        · rw [ho] at b2
          go_wp2_with fail
          go_meet
          refine ⟨on + 1, by simp [ho], ?_, ?_, HON.out.set_ _ _⟩
          · have := HK1.out.set_ 2 (.int .i64 ((on : Int) + 1))
            simpa [three] using this
          · exact blk_only HK2.out ((Only.refl _ _).set_ _ _) hne2
      case rest =>
        obtain ⟨o', ho', hk1, hk2, hon⟩ := hcut
        have HO' := Lib.hid ho'
        have hgl : gg < wc.heap.size := hk1.lt
        have hgb : gb < wc.heap.size := hk2.lt
        have c0 := hk2.cell (i := 0) rfl
        have c1 := hk2.cell (i := 1) rfl
        have c2 := hk2.cell (i := 2) rfl
        have c3 := hk2.cell (i := 3) rfl
        have c4 := hk2.cell (i := 4) rfl
        have c5 := hk2.cell (i := 5) rfl
        replace HON := Lib.hid hon
        replace HK1 := Lib.hid hk1
        replace HK2 := Lib.hid hk2
        clear ho' hk1 hk2 hon b2
        go_wp2_with fail
        refine (HD.out _).mono ?_
        rintro e w2 ⟨rfl, hb2⟩
        have hk1 := HK1.out.below hb2 hgl
        have hk2 := HK2.out.below hb2 hgb
        have c0 := hk2.cell (i := 0) rfl
        have c1 := hk2.cell (i := 1) rfl
        have c2 := hk2.cell (i := 2) rfl
        have c3 := hk2.cell (i := 3) rfl
        have c4 := hk2.cell (i := 4) rfl
        have c5 := hk2.cell (i := 5) rfl
        have f0 := hk1.cell (i := 0) rfl
        have f1 := hk1.cell (i := 1) rfl
        have g0 := hk1.frozen 0
        have g1 := hk1.frozen 1
        replace HON := Lib.hid (HON.out.trans (Only.of_below hb2))
        replace HK1 := Lib.hid hk1
        replace HK2 := Lib.hid hk2
        have hz2 := hb2.size
        clear hk1 hk2 hb2
        cases hd : doneB x
        · rw [hd] at HD HNX
          go_wp2_with fail
          refine (HD.out _).mono ?_
          rintro e w3 ⟨rfl, hb3⟩
          go_wp2
          go_roundg (n - (k + 1))
          case measure => rw [HG.out]; omega
          case rel => exact HNX.out _ pn tn o' (HK1.out.below hb3 (by omega)) (HON.out.trans (Only.of_below hb3)) (by simp) (by simp) HO'.out
        · rw [hd] at HD HNX
          cases hp : x.put
          · rw [hp] at HNX c3
            have HD2 := Lib.hid (fun W => rwell_any ⟨x.beg, x.fin, x.opn, false, x.value, x.code⟩ W)
            rw [show doneB ⟨x.beg, x.fin, x.opn, false, x.value, x.code⟩ = true from hd] at HD2
            go_wp2_with fail
            refine (HD2.out _).mono ?_
            rintro e w3 ⟨rfl, hb3⟩
            have hk1 := HK1.out.below hb3 (by omega)
            have hk2 := HK2.out.below hb3 (by omega)
            have d3 := hk2.cell (i := 3) rfl
            rw [hp] at d3
            have e1 := hk1.cell (i := 1) rfl
            have g3 := hk1.frozen 1
            have HON3 := Lib.hid (HON.out.trans (Only.of_below hb3))
            have HK3 := Lib.hid hk1
            clear hb3 hk1 hk2
            go_wp2
            go_roundg (n - (k + 1))
            case measure => rw [HG.out]; omega
            case rel =>
              refine HNX.out _ pn (tn + 1) o' ?_ (HON3.out.set_ _ _) (by simp) (by simp) HO'.out
              have := HK3.out.set_ 1 (.int .i64 ((tn : Int) + 1))
              simpa [three] using this
          · rw [hp] at HNX c3
            have HK4 := Lib.hid (HK1.out.set_ 0 (.int .i64 ((pn : Int) + 1)))
            have HON4 := Lib.hid (HON.out.set_ 0 (.int .i64 ((pn : Int) + 1)))
            have hk2 := blk_only HK2.out ((Only.refl gg w2).set_ 0 (.int .i64 ((pn : Int) + 1))) hne2
            have HK5 := Lib.hid hk2
            have d0 := hk2.cell (i := 0) rfl
            have d1 := hk2.cell (i := 1) rfl
            have d2 := hk2.cell (i := 2) rfl
            have d3 := hk2.cell (i := 3) rfl
            rw [hp] at d3
            have d4 := hk2.cell (i := 4) rfl
            have d5 := hk2.cell (i := 5) rfl
            have hz4 := hk2.lt
            have hz5 := HK4.out.lt
            clear hk2
            have HD2 := Lib.hid (fun W => rwell_any ⟨x.beg, x.fin, x.opn, true, x.value, x.code⟩ W)
            rw [show doneB ⟨x.beg, x.fin, x.opn, true, x.value, x.code⟩ = true from hd] at HD2
            go_wp2_with fail
            refine (HD2.out _).mono ?_
            rintro e w3 ⟨rfl, hb3⟩
            have e3 := (HK5.out.below hb3 hz4).cell (i := 3) rfl
            rw [hp] at e3
            have HK6 := Lib.hid (HK4.out.below hb3 hz5)
            have HON6 := Lib.hid (HON4.out.trans (Only.of_below hb3))
            clear hb3
            go_wp2
            go_roundg (n - (k + 1))
            case measure => rw [HG.out]; omega
            case rel =>
              refine HNX.out _ (pn + 1) tn o' ?_ HON6.out (by simp) (by simp) HO'.out
              simpa [three] using HK6.out
    · obtain rfl : k = n := by omega
      rw [List.take_of_length_le (by rw [HN.out]; omega)] at HBK
      have f0 := HBK.out.cell (i := 0) rfl
      have f1 := HBK.out.cell (i := 1) rfl
      have f2 := HBK.out.cell (i := 2) rfl
      go_wp2
      go_quiet (fail)
      go_wp2
      go_ret3
      refine ⟨rfl, ?_⟩
      have := HON.out.below (B := gg) (Nat.le_refl _) (by have := HBK0.out.lt; omega)
      exact Below.drewN' (by rw [HGG.out]; exact HB1.out.trans this) _

end Go.Proofs.Ytmllbailfbjoeaa
