/- The document's took. -/
import Derived.Test.YtmllbailfbjoeaaRef43a
namespace Go.Proofs.Ytmllbailfbjoeaa
open Go.RowKit Go.Sort

theorem blk_six {W : World} {g : Nat} {t : TypeId} {y : Kall} (h : Blk W g t y.cells) (x : Kall) :
    Blk ((((((W.setCell ⟨g, 0, none⟩ (.int .i64 x.beg)).setCell ⟨g, 1, none⟩ (.int .i64 x.fin)).setCell ⟨g, 2, none⟩ (.bool x.opn)).setCell ⟨g, 3, none⟩ (.bool x.put)).setCell ⟨g, 4, none⟩ (.int .i64 x.value)).setCell ⟨g, 5, none⟩ (.int .i64 x.code)) g t x.cells :=
  (((((h.set_ 0 (.int .i64 x.beg)).set_ 1 (.int .i64 x.fin)).set_ 2 (.bool x.opn)).set_ 3 (.bool x.put)).set_ 4 (.int .i64 x.value)).set_ 5 (.int .i64 x.code)
theorem only_six (g : Nat) (W : World) (x : Kall) : Only g W ((((((W.setCell ⟨g, 0, none⟩ (.int .i64 x.beg)).setCell ⟨g, 1, none⟩ (.int .i64 x.fin)).setCell ⟨g, 2, none⟩ (.bool x.opn)).setCell ⟨g, 3, none⟩ (.bool x.put)).setCell ⟨g, 4, none⟩ (.int .i64 x.value)).setCell ⟨g, 5, none⟩ (.int .i64 x.code)) :=
  ((((((Only.refl g W).set_ _ _).set_ _ _).set_ _ _).set_ _ _).set_ _ _).set_ _ _
theorem blk_only {g q : Nat} {a w : World} {t : TypeId} {cs : List Value} (h : Blk a q t cs) (ho : Only g a w) (hn : q ≠ g) : Blk w q t cs := (ho.block q h.lt hn).trans h

theorem takes_snoc {l : List Kall} {k : Nat} {v : Int} (h : k < l.length) : takesS (l.take (k + 1)) v = takesS (l.take k) v ++ (if noTake v (l.getD k Kall.none) = true then [] else [l.getD k Kall.none]) := by
  unfold takesS
  rw [take_succ_K l k h, List.filter_append]
  congr 1
  generalize l.getD k Kall.none = x
  by_cases hx : noTake v x = true
  · simp [hx]
  · simp [hx]

theorem takes_take_le (l : List Kall) (v : Int) (k : Nat) : (takesS (l.take k) v).length ≤ k := by
  have := List.length_filter_le (fun x => !noTake v x) (l.take k)
  simp only [List.length_take] at this
  unfold takesS
  omega

/-- The first one that took it, and how many did. -/
def RetTook (t : List Kall) (w : World) (e : Ending) (w' : World) : Prop := e = .returned (.tuple #[kallV (headK t), .int .i64 ((t.length : Nat) : Int)]) ∧ Below w.heap.size w w'

set_option maxHeartbeats 4000000 in
set_option maxRecDepth 100000 in
theorem took_any (A : Option Addr) (c : Nat) (l : List Kall) (v : Int) (w : World) (hl : l.length ≤ 1048576) (hR : Rd w A (rows l)) :
    Calls Try.prog 75 #[.slice A l.length c, .int .i64 v] w (RetTook (takesS l v) w) := by
  have HR := Lib.hid hR
  clear hR
  generalize hn : l.length = n at *
  have HN := Lib.hid hn
  clear hn
  go_enter Try.func75, Try.ntmps75
  go_wp2
  go_loopg [7, 12] n (fun g a i wr => ∃ (k : Nat), k ≤ n ∧ g = n - k ∧ i = .int .i64 k ∧ a = .int .i64 (((takesS (l.take k) v).length : Nat) : Int) ∧ Blk wr w.heap.size 88 Kall.none.cells ∧ Blk wr (w.heap.size + 1) 88 (headK (takesS (l.take k) v)).cells ∧ Below w.heap.size w wr)
  case atStart =>
    refine ⟨0, Nat.zero_le _, rfl, rfl, by simp [takesS], ?_, ?_, ?_⟩
    · exact (Blk.new w 88 Kall.none.cells).alloc _
    · exact blk_new (by simp)
    · exact ((Below.refl _ _).alloc (Nat.le_refl _) _).alloc (by simp) _
  case round =>
    obtain ⟨k, hk, hg, rfl, rfl, hb0, hb1, hb⟩ := hrel
    have HG := Lib.hid hg
    have HB := Lib.hid hb
    have HB0 := Lib.hid hb0
    have HB1 := Lib.hid hb1
    have p1 := takes_take_le l v k
    clear hg hb hb0 hb1
    by_cases hlt : k < n
    · have hkl : k < l.length := by rw [HN.out]; exact hlt
      obtain ⟨b, o, rfl, hbl, hc⟩ := HR.out.at_ (by rw [rows_length]; exact Nat.mul_pos (by omega) (by decide))
      have hcr : ∀ j u, (rows l)[j]? = some u → wr.cell? ⟨b, o + j, none⟩ = some u := fun j u hj => by
        rw [HB.out.cell (p := ⟨b, o + j, none⟩) hbl]; exact hc j u hj
      have HS1 := Lib.hid (takes_snoc (v := v) hkl)
      generalize hx : l.getD k Kall.none = x at *
      obtain ⟨c0, c1, c2, c3, c4, c5⟩ := kall_cells hcr hkl hx
      clear hc hcr hx hkl
      generalize takesS (l.take k) v = tk at *
      have q1 : (0 : Int) ≤ (k : Int) := by omega
      have q2 : (k : Int) < (n : Int) := by omega
      have hgl : w.heap.size + 1 < wr.heap.size := HB1.out.lt
      have HNT : RowKit.Hid (noTake v x = (x.put || !doneB x || x.value != v)) := Lib.hid rfl
      have HNEXT : RowKit.Hid (∀ w3 : World, noTake v x = true → Blk w3 w.heap.size 88 Kall.none.cells → Blk w3 (w.heap.size + 1) 88 (headK tk).cells → Below w.heap.size w w3 →
          ∃ (k' : Nat), k' ≤ n ∧ n - (k + 1) = n - k' ∧ Value.int .i64 ((k : Int) + 1) = .int .i64 k' ∧ Value.int .i64 ((tk.length : Nat) : Int) = .int .i64 (((takesS (l.take k') v).length : Nat) : Int) ∧ Blk w3 w.heap.size 88 Kall.none.cells ∧ Blk w3 (w.heap.size + 1) 88 (headK (takesS (l.take k') v)).cells ∧ Below w.heap.size w w3) := Lib.hid (by
        intro w3 hnt h0 h1 hb
        have e := HS1.out
        rw [hnt] at e
        simp only [if_true, List.append_nil] at e
        exact ⟨k + 1, by omega, rfl, by go_num, by rw [e], h0, by rw [e]; exact h1, hb⟩)
      cases hp : x.put
      · rw [hp] at c3
        have HD := Lib.hid (rwell_any ⟨x.beg, x.fin, x.opn, false, x.value, x.code⟩)
        have hde : doneB ⟨x.beg, x.fin, x.opn, false, x.value, x.code⟩ = doneB x := rfl
        rw [hde] at HD
        clear hde
        go_wp2_with fail
        refine (HD.out _).mono ?_
        rintro e w2 ⟨rfl, hb2⟩
        have hby : Blk w2 wr.heap.size 88 (Kall.cells ⟨x.beg, x.fin, x.opn, false, x.value, x.code⟩) := (Blk.new wr 88 (Kall.cells ⟨x.beg, x.fin, x.opn, false, x.value, x.code⟩)).below hb2 (by simp)
        have h20 := (HB0.out.alloc (rkbox ⟨x.beg, x.fin, x.opn, false, x.value, x.code⟩)).below hb2 (by simp; omega)
        have h21 := (HB1.out.alloc (rkbox ⟨x.beg, x.fin, x.opn, false, x.value, x.code⟩)).below hb2 (by simp; omega)
        have hB2 := (HB.out.alloc HB.out.size (rkbox ⟨x.beg, x.fin, x.opn, false, x.value, x.code⟩)).trans (hb2.mono (by have := HB.out.size; simp; omega))
        have y0 : w2.cell? ⟨wr.heap.size, 0, none⟩ = some (.int .i64 x.beg) := hby.cell rfl
        have y1 : w2.cell? ⟨wr.heap.size, 1, none⟩ = some (.int .i64 x.fin) := hby.cell rfl
        have y2 : w2.cell? ⟨wr.heap.size, 2, none⟩ = some (.bool x.opn) := hby.cell rfl
        have y3 : w2.cell? ⟨wr.heap.size, 3, none⟩ = some (.bool false) := hby.cell rfl
        have y4 : w2.cell? ⟨wr.heap.size, 4, none⟩ = some (.int .i64 x.value) := hby.cell rfl
        have y5 : w2.cell? ⟨wr.heap.size, 5, none⟩ = some (.int .i64 x.code) := hby.cell rfl
        have H20 := Lib.hid h20
        have H21 := Lib.hid h21
        have HB2 := Lib.hid hB2
        clear hb2 hby h20 h21 hB2 HD c0 c1 c2 c3 c4 c5
        cases hd : doneB x
        · go_wp2
          go_roundg (n - (k + 1))
          case measure => rw [HG.out]; omega
          case rel => exact HNEXT.out _ (by rw [HNT.out, hp, hd]; rfl) H20.out H21.out HB2.out
        · cases hv : (x.value != v)
          · have HYES := HS1
            rw [show noTake v x = false by rw [HNT.out, hp, hd, hv]; rfl] at HYES
            simp only [Bool.false_eq_true, if_false] at HYES
            have hxe : (⟨x.beg, x.fin, x.opn, false, x.value, x.code⟩ : Kall) = x := by rw [← hp]
            by_cases ht : tk.length = 0
            · have t0 : (((tk.length : Nat) : Int) == 0) = true := by simp [ht]
              have d0 := H21.out.cell (i := 0) rfl
              have d1 := H21.out.cell (i := 1) rfl
              have d2 := H21.out.cell (i := 2) rfl
              have d3 := H21.out.cell (i := 3) rfl
              have d4 := H21.out.cell (i := 4) rfl
              have d5 := H21.out.cell (i := 5) rfl
              have z0 := H21.out.frozen 0
              have z1 := H21.out.frozen 1
              have z2 := H21.out.frozen 2
              have z3 := H21.out.frozen 3
              have z4 := H21.out.frozen 4
              have z5 := H21.out.frozen 5
              have H31 := Lib.hid (blk_six H21.out ⟨x.beg, x.fin, x.opn, false, x.value, x.code⟩)
              have HO3 := Lib.hid (only_six (w.heap.size + 1) w2 ⟨x.beg, x.fin, x.opn, false, x.value, x.code⟩)
              have HTL := Lib.hid ht
              generalize htn : tk.length = tn at *
              have HTN := Lib.hid htn
              clear htn ht
              generalize headK tk = hk0 at *
              go_wp2
              go_roundg (n - (k + 1))
              case measure => rw [HG.out]; omega
              case rel =>
                have e0 : tk = [] := List.eq_nil_of_length_eq_zero (by rw [HTN.out]; exact HTL.out)
                refine ⟨k + 1, by omega, rfl, by go_num, ?_, blk_only H20.out HO3.out (by omega), ?_, HB2.out.trans (HO3.out.below (by omega) HB2.out.size)⟩
                · rw [HYES.out, HTL.out, e0]; rfl
                · rw [HYES.out, e0]
                  have h := H31.out
                  rw [hxe] at h
                  exact h
            · have t0 : (((tk.length : Nat) : Int) == 0) = false := by simpa using ht
              have HTL := Lib.hid ht
              generalize htn : tk.length = tn at *
              have HTN := Lib.hid htn
              clear htn ht
              go_wp2
              go_roundg (n - (k + 1))
              case measure => rw [HG.out]; omega
              case rel =>
                refine ⟨k + 1, by omega, rfl, by go_num, ?_, H20.out, ?_, HB2.out⟩
                · rw [HYES.out, List.length_append, HTN.out]; go_num
                · rw [HYES.out]
                  have he : headK (tk ++ [x]) = headK tk := by
                    unfold headK List.getD
                    rw [List.getElem?_append_left (by have := HTN.out; have := HTL.out; omega)]
                  rw [he]
                  exact H21.out
          · go_wp2
            go_roundg (n - (k + 1))
            case measure => rw [HG.out]; omega
            case rel => exact HNEXT.out _ (by rw [HNT.out, hp, hd, hv]; rfl) H20.out H21.out HB2.out
      · rw [hp] at c3
        go_wp2
        go_roundg (n - (k + 1))
        case measure => rw [HG.out]; omega
        case rel => exact HNEXT.out _ (by rw [HNT.out, hp]; rfl) (HB0.out.alloc _) (HB1.out.alloc _) (HB.out.alloc HB.out.size _)
    · obtain rfl : k = n := by omega
      rw [List.take_of_length_le (by rw [HN.out]; omega)] at HB1 ⊢
      generalize takesS l v = tk at *
      have HH : RowKit.Hid (headK tk = headK tk) := Lib.hid rfl
      generalize hhd : headK tk = hd at *
      have HHD := Lib.hid hhd
      clear hhd
      have d0 := HB1.out.cell (i := 0) rfl
      have d1 := HB1.out.cell (i := 1) rfl
      have d2 := HB1.out.cell (i := 2) rfl
      have d3 := HB1.out.cell (i := 3) rfl
      have d4 := HB1.out.cell (i := 4) rfl
      have d5 := HB1.out.cell (i := 5) rfl
      have e0 := HB0.out.cell (i := 0) rfl
      have e1 := HB0.out.cell (i := 1) rfl
      have e2 := HB0.out.cell (i := 2) rfl
      have e3 := HB0.out.cell (i := 3) rfl
      have e4 := HB0.out.cell (i := 4) rfl
      have e5 := HB0.out.cell (i := 5) rfl
      have z0 := HB0.out.frozen 0
      have z1 := HB0.out.frozen 1
      have z2 := HB0.out.frozen 2
      have z3 := HB0.out.frozen 3
      have z4 := HB0.out.frozen 4
      have z5 := HB0.out.frozen 5
      have HO := Lib.hid (only_six w.heap.size wr hd)
      have hz : w.heap.size < wr.heap.size := HB0.out.lt
      go_wp2
      have hne : RetTook tk w (.returned (.tuple #[kallV hd, .int .i64 ((tk.length : Nat) : Int)])) ((((((wr.setCell ⟨w.heap.size, 0, none⟩ (.int .i64 hd.beg)).setCell ⟨w.heap.size, 1, none⟩ (.int .i64 hd.fin)).setCell ⟨w.heap.size, 2, none⟩ (.bool hd.opn)).setCell ⟨w.heap.size, 3, none⟩ (.bool hd.put)).setCell ⟨w.heap.size, 4, none⟩ (.int .i64 hd.value)).setCell ⟨w.heap.size, 5, none⟩ (.int .i64 hd.code)) := by
        refine ⟨?_, HB.out.trans (HO.out.below (Nat.le_refl _) HB.out.size)⟩
        rw [HHD.out]
      exact bodyPost_ret (v := .tuple #[kallV hd, .int .i64 ((tk.length : Nat) : Int)]) (by simp [results, Try.results75, go_sem, e0, e1, e2, e3, e4, e5]) rfl hne

end Go.Proofs.Ytmllbailfbjoeaa
