/- chans: a channel in new memory; what a call that waited came to; is a channel ready: walked. -/
import Derived.Test.YtieglgahfeecbaaGreatDoorP2
import Derived.Test.YtieglgahfeecbaaGreatDoorP3
set_option maxHeartbeats 64000000
set_option maxRecDepth 100000
namespace Go.Proofs.YtieglgahfeecbaaGreatDoor
open Go.RowKit Go.Sort
attribute [local go_sem ↓] Go.wp_at_zero Go.wp_at_succ
theorem WordsEq_any (A B : Option Addr) (c d : Nat) (l r : List Int) (w : World) (hl : l.length <= maxLen) (hr : r.length <= maxLen) (hA : Rd w A (words l)) (hB : Rd w B (words r)) :
  Calls Tryz.prog 138 #[.slice A l.length c, .slice B r.length d] w fun e w' => e = .returned (.bool (l == r)) /\ Below w.heap.size w w' := by
 unfold maxLen at hl hr
 have HA := Zd hA
 have HB := Zd hB
 clear hA hB
 generalize hn : l.length = n at hl ⊢
 generalize hm : r.length = m at hr ⊢
 have HN := Zd hn
 have HM := Zd hm
 clear hn hm
 by_cases hnm : n = m
 . subst hnm
   go_enter Tryz.func138, Tryz.ntmps138
   go_wp2
   go_loopw [13] (fun i wr => ∃ k : Nat, k <= n /\ i = .int .i64 k /\ Below w.heap.size w wr /\ l.take k = r.take k) (fun i _ => n - (intOf i).toNat)
   case atStart => exact ⟨0, Nat.zero_le _, rfl, Below.refl _ _, by simp⟩
   case round =>
    obtain ⟨k, hk, rfl, hb, ht⟩ := hrel
    have HBW := Zd hb
    have HT := Zd ht
    clear hb ht
    by_cases hlt : k < n
    . obtain ⟨a1, o1, rfl, hl1, hc1⟩ := HA.out.at_ (by rw [words_length, HN.out]; omega)
      obtain ⟨a2, o2, rfl, hl2, hc2⟩ := HB.out.at_ (by rw [words_length, HM.out]; omega)
      have x1 : wr.cell? ⟨a1, o1 + k, none⟩ = some (.int .u64 (l.getD k 0)) := by
       rw [HBW.out.cell (p := ⟨a1, o1 + k, none⟩) hl1]; exact hc1 k _ (words_at (by rw [HN.out]; exact hlt))
      have x2 : wr.cell? ⟨a2, o2 + k, none⟩ = some (.int .u64 (r.getD k 0)) := by
       rw [HBW.out.cell (p := ⟨a2, o2 + k, none⟩) hl2]; exact hc2 k _ (words_at (by rw [HM.out]; exact hlt))
      clear hc1 hc2
      have q1 : (0 : Int) <= (k : Int) := by omega
      have q2 : (k : Int) < (n : Int) := by omega
      generalize hx : l.getD k 0 = x at x1
      generalize hy : r.getD k 0 = y at x2
      have HX := Zd hx
      have HY := Zd hy
      clear hx hy
      by_cases hxy : x = y
      . subst hxy
        go_wp2
        go_quiet (fail)
        go_wp2
        refine ⟨⟨k + 1, by omega, by go_num, Below.drewN' HBW.out nq, ?_⟩, by simp [intOf]; omega⟩
        exact take_snoc_eq l r 0 k (by rw [HN.out]; exact hlt) (by rw [HM.out]; exact hlt) HT.out (by rw [HX.out, HY.out])
      . have hne : (x != y) = true := by simp [hxy]
        have HXY := Zd hxy
        clear hxy
        go_wp2
        go_quiet (fail)
        go_wp2
        go_ret
        exact ⟨ret_bool (ne_of_getD l r 0 k (by rw [HX.out, HY.out]; exact HXY.out)).symm, Below.drewN' HBW.out nq⟩
    . go_wp2
      go_ret
      obtain rfl : k = n := by omega
      exact ⟨ret_bool (eq_of_take l r k HN.out HM.out HT.out).symm, HBW.out⟩
 . have h1 : ((n : Int) != (m : Int)) = true := by rw [bne_iff_ne]; omega
   have HNM := Zd hnm
   clear hnm
   go_enter Tryz.func138, Tryz.ntmps138
   go_wp2
   go_ret
   exact ⟨ret_bool (ne_of_length l r (by rw [HN.out, HM.out]; exact HNM.out)).symm, Below.refl _ _⟩
theorem wat_any (A : Option Addr) (n c : Nat) (t : Int) (w : World) :
  Calls Tryz.prog 212 #[.slice A n c, .int .i64 t] w fun e w' => e = .returned (.bool (decide (inL n t))) /\ w' = w := by
 by_cases h1 : 0 <= t <;> by_cases h2 : t < (n : Int)
 all_goals
  go_enter Tryz.func212, Tryz.ntmps212
  go_wp2
  go_ret
  refine ⟨ret_bool ?_, rfl⟩
  unfold inL
  first | exact (decide_eq_true (by omega)).symm | exact (decide_eq_false (by omega)).symm | (simp only [h1, h2]; first | exact (decide_eq_true (by omega)).symm | exact (decide_eq_false (by omega)).symm)
theorem map_set_same {α β : Type} {f : α -> β} {d : α} {l : List α} {k : Nat} (hk : k < l.length) {y : α} (h : f y = f (l.getD k d)) : (l.set k y).map f = l.map f := by
 rw [List.map_set, h]
 refine List.ext_getElem (by simp) fun i h1 h2 => ?_
 rw [List.getElem_set]
 split
 . rename_i he
   subst he
   simp [List.getD, hk]
 . rfl
theorem getD_set_eq {α : Type} {d : α} {l : List α} {k : Nat} (hk : k < l.length) (y : α) : (l.set k y).getD k d = y := by simp [List.getD, hk]
theorem getD_set_ne {α : Type} {d : α} {l : List α} {k j : Nat} (h : j ≠ k) (y : α) : (l.set k y).getD j d = l.getD j d := by
 have : k ≠ j := fun e => h e.symm
 simp [List.getD, this]
theorem wtr_set {l : List Wtr} {k : Nat} (hk : k < l.length) (A : Option Addr) (c : Nat) :
  (rows l).set (k * 4 + 3) (.slice A (l.getD k Wtr.none).cs.length c) = rows (l.set k ⟨(l.getD k Wtr.none).on, (l.getD k Wtr.none).ticket, (l.getD k Wtr.none).seq, A, c, (l.getD k Wtr.none).cs⟩) :=
 rows_set hk 3 _ _ (by decide) rfl
theorem wCopy_any (A : Option Addr) (n c : Nat) (l : List Wtr) (w : World) (h : WtsAt w A n l) :
  Calls Tryz.prog 169 #[.slice A n c] w (RetWts (l.map Wtr.p) w) := by
 obtain ⟨hl, hn, hR, hC, hcl, _⟩ := h
 have HL := Zd hl
 have HC := Zd hC
 have HCL := Zd hcl
 have HCW := Zd (fun W h => CloneWt_any A n c (rows l) W (by omega) (by rw [rows_length, hl]; rfl) (rows_one l) h)
 have HR := Zd hR
 clear hl hR hC hcl
 go_enter Tryz.func169, Tryz.ntmps169
 go_wp2_with (refine (HCW.out _ HR.out).mono ?_; rintro er w1 ⟨A1, c1, rfl, hown1, hb1⟩)
 have HO1 := Zd hown1
 have HB1 := Zd hb1
 clear hown1 hb1 HCW
 go_loopg [9] n (fun gg i wr => ∃ (k : Nat) (ls : List Wtr), k <= n /\ gg = n - k /\ i = .int .i64 k /\ ls.length = n /\ ls.map Wtr.p = l.map Wtr.p /\
  wr.ownsRow w.heap.size 128 4 (.slice A1 n c1) n (rows ls) /\ (∀ j, k <= j -> ls.getD j Wtr.none = l.getD j Wtr.none) /\
  (∀ j, j < k -> wr.ownsRow w.heap.size 100 3 (.slice (ls.getD j Wtr.none).A (ls.getD j Wtr.none).cs.length (ls.getD j Wtr.none).c) (ls.getD j Wtr.none).cs.length (rows (ls.getD j Wtr.none).cs)) /\ Below w.heap.size w wr)
 case atStart => exact ⟨0, l, Nat.zero_le _, rfl, rfl, HL.out, rfl, HO1.out, fun _ _ => rfl, fun j hj => absurd hj (by omega), HB1.out⟩
 case round =>
  obtain ⟨k, ls, hk, hg, rfl, hls, hmp, hown, hsm, hdn, hb⟩ := hrel
  have HG := Zd hg
  have HO := Zd hown
  have HB := Zd hb
  have HLS := Zd hls
  have HMP := Zd hmp
  have HSM := Zd hsm
  have HDN := Zd hdn
  clear hg hown hb hls hmp hsm hdn HO1 HB1
  by_cases hlt : k < n
  . have q1 : (k : Int) < ((n : Nat) : Int) := by omega
    have hkl : k < ls.length := by rw [HLS.out]; exact hlt
    obtain ⟨g, rfl, hg1, hg2⟩ := own_some HO.out (by omega)
    have hcell : wr.cell? ⟨g, k * 4 + 3, none⟩ = some (.slice (ls.getD k Wtr.none).A (ls.getD k Wtr.none).cs.length (ls.getD k Wtr.none).c) := by
     have := (wtr_cells (own_cellAt HO.out) hkl rfl).2.2.2
     rwa [Nat.zero_add] at this
    have hfz : ∀ i, wr.frozen? ⟨g, i, none⟩ = false := own_free HO.out
    have HX : Hid (Rd wr (ls.getD k Wtr.none).A (rows (ls.getD k Wtr.none).cs) /\ (ls.getD k Wtr.none).cs.length <= 1048576) := Zd (by
     rw [HSM.out k (Nat.le_refl _)]
     have hm : l.getD k Wtr.none ∈ l := by rw [List.getD, List.getElem?_eq_getElem (by rw [HL.out]; exact hlt)]; exact List.getElem_mem _
     exact ⟨(HC.out _ hm).below HB.out, HCL.out _ hm⟩)
    have HCC := Zd (CloneC_any (ls.getD k Wtr.none).A (ls.getD k Wtr.none).cs.length (ls.getD k Wtr.none).c (rows (ls.getD k Wtr.none).cs) wr (by have := HX.out.2; omega) (rows_length _) (rows_one _) HX.out.1)
    have HFZ := Zd hfz
    have HKL := Zd hkl
    clear hfz hkl
    generalize hx : ls.getD k Wtr.none = x at hcell HX HCC
    obtain ⟨on, tk, sq, XA, xc, cs⟩ := x
    simp only at hcell HX HCC
    have HXE := Zd hx
    clear hx
    generalize hm : cs.length = m at *
    go_wp2_with (first
     | (refine HCC.out.mono ?_; rintro er w2 ⟨A2, c2, rfl, hown2, hb2⟩
        have HO2 := Zd hown2
        have HB2 := Zd hb2
        have f2 : w2.frozen? ⟨g, k * 4 + 3, none⟩ = false := (hb2.frozen (p := ⟨g, k * 4 + 3, none⟩) hg2).trans (HFZ.out _)
        have f3 : ∃ v, w2.cell? ⟨g, k * 4 + 3, none⟩ = some v := ⟨_, (hb2.cell (p := ⟨g, k * 4 + 3, none⟩) hg2).trans hcell⟩
        obtain ⟨v, f3⟩ := f3
        clear hown2 hb2))
    have HOW := Zd (own_below HO.out HB2.out)
    obtain ⟨cur, hcur⟩ := own_blk HOW.out
    have HCU := Zd hcur
    clear hcur
    go_roundg (n - (k + 1))
    case measure => rw [HG.out]; omega
    case rel =>
     have hkl := HKL.out
     have hxe := HXE.out
     have hcm : (⟨on, tk, sq, A2, c2, cs⟩ : Wtr).p = (ls.getD k Wtr.none).p := by rw [hxe]; rfl
     refine ⟨k + 1, ls.set k ⟨on, tk, sq, A2, c2, cs⟩, by omega, rfl, by go_num, by rw [List.length_set]; exact HLS.out, by rw [map_set_same hkl hcm]; exact HMP.out, ?_, fun j hj => by rw [getD_set_ne (by omega)]; exact HSM.out j (by omega), fun j hj => ?_, ?_⟩
     . refine own_put HOW.out (by omega) (k * 4 + 3) _ (by omega) ?_
       have e := wtr_set hkl A2 c2
       rw [hxe] at e
       simp only [hm] at e
       exact e
     . by_cases hjk : j = k
       . subst hjk
         rw [getD_set_eq hkl]
         simp only [hm]
         exact own_ty (own_lower HO2.out HB.out.size) HCU.out (by decide) _ _
       . rw [getD_set_ne hjk]
         exact own_ty (own_below (HDN.out j (by omega)) HB2.out) HCU.out (by decide) _ _
     . exact (HB.out.trans (HB2.out.mono HB.out.size)).setCell (p := ⟨g, k * 4 + 3, none⟩) hg1 _
  . obtain rfl : k = n := by omega
    have q1 : ¬ (k : Int) < (k : Int) := by omega
    go_wp2_with fail
    go_ret
    have hle : (l.map Wtr.p).length = k := by rw [List.length_map]; exact HL.out
    refine ⟨A1, c1, ls, by rw [hle]; rfl, HMP.out, ⟨by rw [hle]; exact HO.out, fun x hx => ?_⟩, HB.out⟩
    obtain ⟨j, hj, rfl⟩ := List.getElem_of_mem hx
    have := HDN.out j (by rw [<- HLS.out]; exact hj)
    have e : ls.getD j Wtr.none = ls[j] := by simp [List.getD, hj]
    rw [e] at this
    exact this
theorem WtsAt.pat {w : World} {A : Option Addr} {n : Nat} {l : List Wtr} (h : WtsAt w A n l) {k : Nat} (hk : k < n) : ∃ b o, A = some ⟨b, o, none⟩ /\ b < w.heap.size /\
  w.cell? ⟨b, o + k * 4, none⟩ = some (.bool (l.getD k Wtr.none).on) /\ w.cell? ⟨b, o + k * 4 + 1, none⟩ = some (.int .i64 (l.getD k Wtr.none).ticket) /\ w.cell? ⟨b, o + k * 4 + 2, none⟩ = some (.int .i64 (l.getD k Wtr.none).seq) /\ w.cell? ⟨b, o + k * 4 + 3, none⟩ = some (.slice (l.getD k Wtr.none).A (l.getD k Wtr.none).cs.length (l.getD k Wtr.none).c) := by
 obtain ⟨b, o, hA, hb, hc⟩ := h.rd.at_ (by rw [rows_length, h.len]; exact Nat.mul_pos (by omega) (by decide))
 obtain ⟨c0, c1, c2, c3⟩ := wtr_cells hc (k := k) (by rw [h.len]; exact hk) rfl
 exact ⟨b, o, hA, hb, c0, c1, c2, c3⟩
theorem wtr_setAll {l : List Wtr} {k : Nat} (hk : k < l.length) (y : Wtr) (s : Nat) (hs : y.cs.length = s) :
  ((((rows l).set (k * 4) (.bool y.on)).set (k * 4 + 1) (.int .i64 y.ticket)).set (k * 4 + 2) (.int .i64 y.seq)).set (k * 4 + 3) (.slice y.A s y.c) = rows (l.set k y) := by
 subst hs
 have e0 := rows_set (l := l) (k := k) hk 0 (.bool y.on) ⟨y.on, (l.getD k Wtr.none).ticket, (l.getD k Wtr.none).seq, (l.getD k Wtr.none).A, (l.getD k Wtr.none).c, (l.getD k Wtr.none).cs⟩ (by decide) rfl
 have e0' : (rows l).set (k * 4) (.bool y.on) = _ := e0
 rw [e0']
 have h1 := rows_set (l := l.set k ⟨y.on, (l.getD k Wtr.none).ticket, (l.getD k Wtr.none).seq, (l.getD k Wtr.none).A, (l.getD k Wtr.none).c, (l.getD k Wtr.none).cs⟩) (k := k) (by simpa using hk) 1 (.int .i64 y.ticket)
  ⟨y.on, y.ticket, (l.getD k Wtr.none).seq, (l.getD k Wtr.none).A, (l.getD k Wtr.none).c, (l.getD k Wtr.none).cs⟩ (by decide) (by show _ = List.set (Wtr.cells (List.getD _ k Wtr.none)) _ _; rw [getD_set_eq hk]; rfl)
 have h1' : (rows _).set (k * 4 + 1) (.int .i64 y.ticket) = _ := h1
 rw [h1', List.set_set]
 have h2 := rows_set (l := l.set k ⟨y.on, y.ticket, (l.getD k Wtr.none).seq, (l.getD k Wtr.none).A, (l.getD k Wtr.none).c, (l.getD k Wtr.none).cs⟩) (k := k) (by simpa using hk) 2 (.int .i64 y.seq)
  ⟨y.on, y.ticket, y.seq, (l.getD k Wtr.none).A, (l.getD k Wtr.none).c, (l.getD k Wtr.none).cs⟩ (by decide) (by show _ = List.set (Wtr.cells (List.getD _ k Wtr.none)) _ _; rw [getD_set_eq hk]; rfl)
 have h2' : (rows _).set (k * 4 + 2) (.int .i64 y.seq) = _ := h2
 rw [h2', List.set_set]
 have h3 := rows_set (l := l.set k ⟨y.on, y.ticket, y.seq, (l.getD k Wtr.none).A, (l.getD k Wtr.none).c, (l.getD k Wtr.none).cs⟩) (k := k) (by simpa using hk) 3 (.slice y.A y.cs.length y.c)
  y (by decide) (by show _ = List.set (Wtr.cells (List.getD _ k Wtr.none)) _ _; rw [getD_set_eq hk]; rfl)
 have h3' : (rows _).set (k * 4 + 3) (.slice y.A y.cs.length y.c) = _ := h3
 rw [h3', List.set_set]
theorem OwnWts.put {base : Nat} {w : World} {g n c : Nat} {l : List Wtr} (h : OwnWts base w (some ⟨g, 0, none⟩) n c l) {k : Nat} (hk : k < n) (y : Wtr) (s : Nat) (hs : y.cs.length = s) (hy : w.ownsRow base 100 3 (.slice y.A s y.c) s (rows y.cs)) :
  OwnWts base ((((w.setCell ⟨g, k * 4, none⟩ (.bool y.on)).setCell ⟨g, k * 4 + 1, none⟩ (.int .i64 y.ticket)).setCell ⟨g, k * 4 + 2, none⟩ (.int .i64 y.seq)).setCell ⟨g, k * 4 + 3, none⟩ (.slice y.A s y.c)) (some ⟨g, 0, none⟩) n c (l.set k y) := by
 have hn : 0 < n := by omega
 have hl := h.len
 have e := wtr_setAll (l := l) (k := k) (by omega) y s hs
 have a0 := own_put h.row hn (k * 4) (.bool y.on) (by omega) rfl
 have a1 := own_put a0 hn (k * 4 + 1) (.int .i64 y.ticket) (by omega) rfl
 have a2 := own_put a1 hn (k * 4 + 2) (.int .i64 y.seq) (by omega) rfl
 have a3 := own_put a2 hn (k * 4 + 3) (.slice y.A s y.c) (by omega) e
 obtain ⟨c0, b0⟩ := own_blk h.row
 obtain ⟨c1, b1⟩ := own_blk a0
 obtain ⟨c2, b2⟩ := own_blk a1
 obtain ⟨c3, b3⟩ := own_blk a2
 refine ⟨a3, fun x hx => ?_⟩
 have hall : w.ownsRow base 100 3 (.slice x.A x.cs.length x.c) x.cs.length (rows x.cs) := by
  rcases List.mem_or_eq_of_mem_set hx with h' | h'
  . exact h.cs x h'
  . rw [h', hs]; exact hy
 exact own_ty (own_ty (own_ty (own_ty hall b0 (by decide) _ _) b1 (by decide) _ _) b2 (by decide) _ _) b3 (by decide) _ _
theorem below4 {B : Nat} {a w : World} (h : Below B a w) {g i j k l : Nat} {u v x y : Value} (hg : B <= g) : Below B a ((((w.setCell ⟨g, i, none⟩ u).setCell ⟨g, j, none⟩ v).setCell ⟨g, k, none⟩ x).setCell ⟨g, l, none⟩ y) :=
 (((h.setCell (p := ⟨g, i, none⟩) hg u).setCell (p := ⟨g, j, none⟩) hg v).setCell (p := ⟨g, k, none⟩) hg x).setCell (p := ⟨g, l, none⟩) hg y
theorem map_set_p {l : List Wtr} {k : Nat} (y : Wtr) : (l.set k y).map Wtr.p = (l.map Wtr.p).set k y.p := List.map_set
theorem wCut_any (A : Option Addr) (n c : Nat) (l : List Wtr) (t : Int) (w : World) (h : WtsAt w A n l) :
  Calls Tryz.prog 202 #[.slice A n c, .int .i64 t] w (RetWtsB (cutS (l.map Wtr.p) t) w) := by
 have HH := Zd h
 have HLE : Hid ((l.map Wtr.p).length = n) := Zd (by rw [List.length_map]; exact h.len)
 have HCP := Zd (wCopy_any A n c l w h)
 clear h
 by_cases h1 : inL n t
 . obtain ⟨k, rfl⟩ : ∃ k : Nat, t = k := ⟨t.toNat, by unfold inL at h1; omega⟩
   have hk : k < n := by unfold inL at h1; omega
   have hb0 : decide (inL n (k : Int)) = true := decide_eq_true h1
   have HAT := Zd (fun W => wat_any A n c (k : Int) W)
   rw [hb0] at HAT
   obtain ⟨b, o, hA, hbl, c0, c1, c2, c3⟩ := HH.out.pat hk
   have HON : Hid (((l.map Wtr.p).getD k WtP.none).on = (l.getD k Wtr.none).on) := Zd (by rw [wtr_map_getD]; rfl)
   have HI := Zd h1
   clear h1 hb0 c1 c2 c3
   subst hA
   generalize hon : (l.getD k Wtr.none).on = on at c0 HON
   have HC0 := Zd c0
   cases on with
   | false =>
     have HE : Hid (cutS (l.map Wtr.p) (k : Int) = (l.map Wtr.p, false)) := Zd (by
      unfold cutS
      rw [if_neg]
      rintro ⟨_, h2⟩
      rw [Int.toNat_natCast, HON.out] at h2
      cases h2)
     go_enter Tryz.func202, Tryz.ntmps202
     go_wp2_with (first
      | (refine HCP.out.mono ?_; rintro er w1 ⟨A1, c1, l1, rfl, hm1, hown1, hb1⟩
         have d0 := (hb1.cell (p := ⟨b, o + k * 4, none⟩) hbl).trans HC0.out)
      | (refine (HAT.out _).mono ?_; rintro er w2 ⟨rfl, rfl⟩))
     go_ret2
     exact ⟨A1, c1, l1, by rw [HE.out]; simp only [List.length_map]; rfl, by rw [HE.out]; exact hm1, by rw [HE.out]; exact hown1, hb1⟩
   | true =>
     have HE : Hid (cutS (l.map Wtr.p) (k : Int) = ((l.map Wtr.p).set k WtP.none, true)) := Zd (by
      unfold cutS
      rw [if_pos ⟨by rw [HLE.out]; exact HI.out, by rw [Int.toNat_natCast, HON.out]⟩, Int.toNat_natCast])
     go_enter Tryz.func202, Tryz.ntmps202
     go_wp2_with (first
      | (refine HCP.out.mono ?_; rintro er w1 ⟨A1, c1, l1, rfl, hm1, hown1, hb1⟩
         have d0 := (hb1.cell (p := ⟨b, o + k * 4, none⟩) hbl).trans HC0.out
         rw [HLE.out] at hown1
         obtain ⟨g, hA1, hg1, hg2⟩ := own_some hown1.row (by omega)
         subst hA1
         have hl1 := hown1.len
         obtain ⟨e0, e1, e2, e3⟩ := wtr_cells (own_cellAt hown1.row) (k := k) (by omega) rfl
         simp only [Nat.zero_add] at e0 e1 e2 e3
         have z0 := own_free hown1.row (k * 4)
         have z1 := own_free hown1.row (k * 4 + 1)
         have z2 := own_free hown1.row (k * 4 + 2)
         have z3 := own_free hown1.row (k * 4 + 3)
         have hle1 : (l.map Wtr.p).length = n := HLE.out
         simp only [hle1]
         have HO1 := Zd hown1
         have HM1 := Zd hm1
         have HB1 := Zd hb1
         have HG1 := Zd hg1
         clear hown1 hm1 hb1 hg1 hl1 hle1)
      | (refine (HAT.out _).mono ?_; rintro er w2 ⟨rfl, rfl⟩))
     go_ret2
     refine ⟨some ⟨g, 0, none⟩, c1, l1.set k Wtr.none, ?_, ?_, ?_, ?_⟩
     . rw [HE.out, List.length_set, HLE.out]; rfl
     . rw [HE.out, map_set_p, HM1.out]; rfl
     . rw [HE.out, List.length_set, HLE.out]
       exact HO1.out.put hk Wtr.none 0 rfl (own_nil _ _ _ _)
     . exact below4 HB1.out HG1.out
 . have hb0 : decide (inL n t) = false := decide_eq_false h1
   have HAT := Zd (fun W => wat_any A n c t W)
   rw [hb0] at HAT
   have HE : Hid (cutS (l.map Wtr.p) t = (l.map Wtr.p, false)) := Zd (by
    unfold cutS
    rw [if_neg]
    rintro ⟨h2, _⟩
    rw [HLE.out] at h2
    exact h1 h2)
   clear h1 hb0
   go_enter Tryz.func202, Tryz.ntmps202
   go_wp2_with (first
    | (refine HCP.out.mono ?_; rintro er w1 ⟨A1, c1, l1, rfl, hm1, hown1, hb1⟩)
    | (refine (HAT.out _).mono ?_; rintro er w2 ⟨rfl, rfl⟩))
   go_ret2
   exact ⟨A1, c1, l1, by rw [HE.out]; simp only [List.length_map]; rfl, by rw [HE.out]; exact hm1, by rw [HE.out]; exact hown1, hb1⟩
theorem wPut_any (A : Option Addr) (n c : Nat) (l : List Wtr) (t : Int) (x : Wtr) (w : World) (h : WtsAt w A n l) (hx : Rd w x.A (rows x.cs)) (hxl : x.cs.length <= 1048576) :
  Calls Tryz.prog 199 #[.slice A n c, .int .i64 t, wtrV x] w (RetWtsB (putS (l.map Wtr.p) t x.p) w) := by
 obtain ⟨xon, xtk, xsq, XA, xc, xcs⟩ := x
 simp only at hx hxl
 generalize hxm : xcs.length = xm at *
 have HXM := Zd hxm
 have HX := Zd hx
 have HH := Zd h
 have HLE : Hid ((l.map Wtr.p).length = n) := Zd (by rw [List.length_map]; exact h.len)
 have HCP := Zd (fun W (hW : WtsAt W A n l) => wCopy_any A n c l W hW)
 have HCL := Zd (fun W (hW : Rd W XA (rows xcs)) => CloneC_any XA xm xc (rows xcs) W (by omega) (by rw [rows_length, hxm]; rfl) (rows_one _) hW)
 clear h hx hxm
 unfold wtrV
 simp only [HXM.out]
 have HBX : Hid (Blk (w.alloc (.cells #[.bool xon, .int .i64 xtk, .int .i64 xsq, .slice XA xm xc] 128)) w.heap.size 128 [.bool xon, .int .i64 xtk, .int .i64 xsq, .slice XA xm xc]) := Zd (Blk.new w _ _)
 have HB0 := Zd ((Below.refl w.heap.size w).alloc (Nat.le_refl _) (.cells #[.bool xon, .int .i64 xtk, .int .i64 xsq, .slice XA xm xc] 128))
 have HS0 : Hid ((w.alloc (.cells #[.bool xon, .int .i64 xtk, .int .i64 xsq, .slice XA xm xc] 128)).heap.size = w.heap.size + 1) := Zd (World.size_alloc ..)
 by_cases h1 : inL n t
 . obtain ⟨k, rfl⟩ : ∃ k : Nat, t = k := ⟨t.toNat, by unfold inL at h1; omega⟩
   have hk : k < n := by unfold inL at h1; omega
   have hb0 : decide (inL n (k : Int)) = true := decide_eq_true h1
   have HAT := Zd (fun W => wat_any A n c (k : Int) W)
   rw [hb0] at HAT
   obtain ⟨b, o, hA, hbl, c0, c1, c2, c3⟩ := HH.out.pat hk
   have HON : Hid (((l.map Wtr.p).getD k WtP.none).on = (l.getD k Wtr.none).on) := Zd (by rw [wtr_map_getD]; rfl)
   have HI := Zd h1
   clear h1 hb0 c1 c2 c3
   subst hA
   generalize hon : (l.getD k Wtr.none).on = on at c0 HON
   have HC0 := Zd c0
   clear c0
   cases on with
   | true =>
     have HE : Hid (putS (l.map Wtr.p) (k : Int) (Wtr.p ⟨xon, xtk, xsq, XA, xc, xcs⟩) = (l.map Wtr.p, false)) := Zd (by
      unfold putS
      rw [if_neg]
      rintro ⟨_, h2⟩
      rw [Int.toNat_natCast, HON.out] at h2
      cases h2)
     go_enter Tryz.func199, Tryz.ntmps199
     go_wp2_with (first
      | (refine (HCP.out _ (HH.out.below HB0.out)).mono ?_; rintro er w1 ⟨A1, c1, l1, rfl, hm1, hown1, hb1⟩
         have d0 := (hb1.cell (p := ⟨b, o + k * 4, none⟩) (Nat.lt_of_lt_of_le hbl HB0.out.size)).trans ((HB0.out.cell (p := ⟨b, o + k * 4, none⟩) hbl).trans HC0.out))
      | (refine (HAT.out _).mono ?_; rintro er w2 ⟨rfl, rfl⟩))
     go_ret2
     exact ⟨A1, c1, l1, by rw [HE.out]; simp only [List.length_map]; rfl, by rw [HE.out]; exact hm1, by rw [HE.out]; exact hown1.lower HB0.out.size, HB0.out.trans (hb1.mono HB0.out.size)⟩
   | false =>
     have HE : Hid (putS (l.map Wtr.p) (k : Int) (Wtr.p ⟨xon, xtk, xsq, XA, xc, xcs⟩) = ((l.map Wtr.p).set k ⟨true, xtk, xsq, xcs⟩, true)) := Zd (by
      unfold putS
      rw [if_pos ⟨by rw [HLE.out]; exact HI.out, by rw [Int.toNat_natCast, HON.out]⟩, Int.toNat_natCast]
      rfl)
     go_enter Tryz.func199, Tryz.ntmps199
     go_upto_region 1 with fail
     generalize hW : w.alloc (.cells #[.bool xon, .int .i64 xtk, .int .i64 xsq, .slice XA xm xc] 128) = W0 at *
     go_wp2_with (first
      | (refine (HCP.out _ (HH.out.below HB0.out)).mono ?_; rintro er w1 ⟨A1, c1, l1, rfl, hm1, hown1, hb1⟩
         have d0 := (hb1.cell (p := ⟨b, o + k * 4, none⟩) (Nat.lt_of_lt_of_le hbl HB0.out.size)).trans ((HB0.out.cell (p := ⟨b, o + k * 4, none⟩) hbl).trans HC0.out)
         rw [HLE.out] at hown1
         obtain ⟨g, hA1, hg1, hg2⟩ := own_some hown1.row (by omega)
         subst hA1
         have HG1 := Zd hg1
         have HG2 := Zd hg2
         have HO1 := Zd hown1
         have HM1 := Zd hm1
         have HB1 := Zd hb1
         have hle1 : (l.map Wtr.p).length = n := HLE.out
         simp only [hle1]
         have HX1 := Zd (HBX.out.below hb1 HBX.out.lt)
         have y3 := HX1.out.cell (i := 3) rfl
         clear hown1 hm1 hb1 hg1 hg2 hle1)
      | (refine (HAT.out _).mono ?_; rintro er w2 ⟨rfl, rfl⟩)
      | (refine (HCL.out _ ((HX.out.below HB0.out).below HB1.out)).mono ?_; rintro er w2 ⟨A2, c2, rfl, hown2, hb2⟩
         have HO2 := Zd hown2
         have HB2 := Zd hb2
         have HX2 := Zd (HX1.out.below hb2 HX1.out.lt)
         clear y3 d0
         have y0 := HX2.out.cell (i := 0) rfl
         have y1 := HX2.out.cell (i := 1) rfl
         have y2 := HX2.out.cell (i := 2) rfl
         have y3 := HX2.out.cell (i := 3) rfl
         have z0 := HX2.out.frozen 0
         have z3 := HX2.out.frozen 3
         have HR2 := Zd (HO1.out.below hb2)
         have hl1 := HO1.out.len
         obtain ⟨e0, e1, e2, e3⟩ := wtr_cells (own_cellAt HR2.out.row) (k := k) (by omega) rfl
         simp only [Nat.zero_add] at e0 e1 e2 e3
         have u0 := own_free HR2.out.row (k * 4)
         have u1 := own_free HR2.out.row (k * 4 + 1)
         have u2 := own_free HR2.out.row (k * 4 + 2)
         have u3 := own_free HR2.out.row (k * 4 + 3)
         have hgx : w.heap.size < W0.heap.size := HBX.out.lt
         have HGX := Zd hgx
         have hne : ¬ g = w.heap.size := by have := HG1.out; omega
         have hne2 : ¬ w.heap.size = g := by have := HG1.out; omega
         clear hown2 hb2 hl1 hgx))
     go_ret2
     have hS := HB0.out.size
     have hRow := ((((HR2.out.low HGX.out 0 (.bool true)).low HGX.out 3 (.slice A2 xm c2)).lower hS).put hk ⟨true, xtk, xsq, A2, c2, xcs⟩ xm HXM.out
      (own_lower (own_low (own_low HO2.out (Nat.lt_of_lt_of_le HGX.out HB1.out.size) 0 (.bool true)) (Nat.lt_of_lt_of_le HGX.out HB1.out.size) 3 (.slice A2 xm c2)) (Nat.le_trans hS HB1.out.size)))
     have hbl2 : Below w.heap.size w w2 := (HB0.out.trans (HB1.out.mono hS)).trans (HB2.out.mono (Nat.le_trans hS HB1.out.size))
     refine ⟨some ⟨g, 0, none⟩, c1, l1.set k ⟨true, xtk, xsq, A2, c2, xcs⟩, ?_, ?_, ?_, ?_⟩
     . rw [HE.out, List.length_set, HLE.out]; rfl
     . rw [HE.out, map_set_p, HM1.out]; rfl
     . rw [HE.out, List.length_set, HLE.out]
       exact hRow
     . exact below4 ((hbl2.setCell (p := ⟨w.heap.size, 0, none⟩) (Nat.le_refl _) _).setCell (p := ⟨w.heap.size, 3, none⟩) (Nat.le_refl _) _) (Nat.le_trans hS HG1.out)
 . have hb0 : decide (inL n t) = false := decide_eq_false h1
   have HAT := Zd (fun W => wat_any A n c t W)
   rw [hb0] at HAT
   have HE : Hid (putS (l.map Wtr.p) t (Wtr.p ⟨xon, xtk, xsq, XA, xc, xcs⟩) = (l.map Wtr.p, false)) := Zd (by
    unfold putS
    rw [if_neg]
    rintro ⟨h2, _⟩
    rw [HLE.out] at h2
    exact h1 h2)
   clear h1 hb0
   go_enter Tryz.func199, Tryz.ntmps199
   go_wp2_with (first
    | (refine (HCP.out _ (HH.out.below HB0.out)).mono ?_; rintro er w1 ⟨A1, c1, l1, rfl, hm1, hown1, hb1⟩)
    | (refine (HAT.out _).mono ?_; rintro er w2 ⟨rfl, rfl⟩))
   go_ret2
   exact ⟨A1, c1, l1, by rw [HE.out]; simp only [List.length_map]; rfl, by rw [HE.out]; exact hm1, by rw [HE.out]; exact hown1.lower HB0.out.size, HB0.out.trans (hb1.mono HB0.out.size)⟩
theorem whas1_enters : Enters 228 := enters_of Tryz.func228 (by kernel_rfl) (by kernel_rfl)
theorem whas1_any (x : Cse) (dir handle : Int) (bd bh : Nat) (w : World) (hbd : bd < w.heap.size) (hbh : bh < w.heap.size) (hd : w.cell? ⟨bd, 0, none⟩ = some (.int .i64 dir)) (hh : w.cell? ⟨bh, 0, none⟩ = some (.int .i64 handle)) :
  Calls Tryz.prog 228 #[cseV x, .pointer (some ⟨bd, 0, none⟩), .pointer (some ⟨bh, 0, none⟩)] w fun e w' => e = .returned (.bool (isC dir handle x)) /\ Below w.heap.size w w' := by
 obtain ⟨xd, xh, xv⟩ := x
 have hne : ¬ bd = w.heap.size := by omega
 have hne2 : ¬ bh = w.heap.size := by omega
 have hd2 : ∀ o, (w.alloc o).cell? ⟨bd, 0, none⟩ = some (.int .i64 dir) := fun o => by rw [World.cell?_alloc_lt _ _ _ (by exact hbd)]; exact hd
 have hh2 : ∀ o, (w.alloc o).cell? ⟨bh, 0, none⟩ = some (.int .i64 handle) := fun o => by rw [World.cell?_alloc_lt _ _ _ (by exact hbh)]; exact hh
 clear hd hh
 unfold isC
 cases e1 : xd == dir
 all_goals
  go_enter Tryz.func228, Tryz.ntmps228
  go_wp2
  go_ret
  exact ⟨rfl, (Below.refl _ _).alloc (Nat.le_refl _) _⟩
theorem whas1_asks (dir handle : Int) (bd bh : Nat) (w : World) (l : List Cse) (hbd : bd < w.heap.size) (hbh : bh < w.heap.size) (hd : w.cell? ⟨bd, 0, none⟩ = some (.int .i64 dir)) (hh : w.cell? ⟨bh, 0, none⟩ = some (.int .i64 handle)) :
  AsksV cseV w 228 #[.pointer (some ⟨bd, 0, none⟩), .pointer (some ⟨bh, 0, none⟩)] (isC dir handle) l := by
 intro x _ w' hb'
 exact whas1_any x dir handle bd bh w' (Nat.lt_of_lt_of_le hbd hb'.size) (Nat.lt_of_lt_of_le hbh hb'.size) ((hb'.cell (p := ⟨bd, 0, none⟩) hbd).trans hd) ((hb'.cell (p := ⟨bh, 0, none⟩) hbh).trans hh)
theorem box3 (w : World) (ta tb tc : TypeId) (xs ys zs : List Value) :
  Blk (((w.alloc (.cells xs.toArray ta)).alloc (.cells ys.toArray tb)).alloc (.cells zs.toArray tc)) w.heap.size ta xs /\ Blk (((w.alloc (.cells xs.toArray ta)).alloc (.cells ys.toArray tb)).alloc (.cells zs.toArray tc)) (w.heap.size + 1) tb ys /\
  Blk (((w.alloc (.cells xs.toArray ta)).alloc (.cells ys.toArray tb)).alloc (.cells zs.toArray tc)) (w.heap.size + 1 + 1) tc zs /\ Below w.heap.size w (((w.alloc (.cells xs.toArray ta)).alloc (.cells ys.toArray tb)).alloc (.cells zs.toArray tc)) :=
 ⟨((Blk.new w ta xs).alloc _).alloc _, (blk_new (by simp)).alloc _, blk_new (by simp), (((Below.refl _ _).alloc (Nat.le_refl _) _).alloc (by simp) _).alloc (by simp; omega) _⟩
theorem whas_any (x : Wtr) (dir handle : Int) (w : World) (hx : Rd w x.A (rows x.cs)) (hxl : x.cs.length <= 1048576) :
  Calls Tryz.prog 223 #[wtrV x, .int .i64 dir, .int .i64 handle] w fun e w' => ∃ v, e = .returned (.tuple #[.int .i64 v, .bool (decide (0 <= placeS x.p dir handle))]) /\ (0 <= placeS x.p dir handle -> v = placeS x.p dir handle) /\ Below w.heap.size w w' := by
 obtain ⟨xon, xtk, xsq, XA, xc, xcs⟩ := x
 simp only at hx hxl
 have HPL : Hid (placeS (Wtr.p ⟨xon, xtk, xsq, XA, xc, xcs⟩) dir handle = if xon = true then firstV (isC dir handle) xcs 0 else -1) := Zd rfl
 have hlo := (firstV_lo (p := isC dir handle) xcs 0).1
 obtain ⟨bx, bd, bh, hb3⟩ := box3 w 128 3 3 [.bool xon, .int .i64 xtk, .int .i64 xsq, .slice XA xcs.length xc] [.int .i64 dir] [.int .i64 handle]
 have HBX := Zd bx
 have HB3 := Zd hb3
 have HIX := Zd (IndexC_any XA xc xcs 228 #[.pointer (some ⟨w.heap.size + 1, 0, none⟩), .pointer (some ⟨w.heap.size + 1 + 1, 0, none⟩)] (isC dir handle) _ (by unfold maxLen; omega) (hx.below hb3) whas1_enters
  (whas1_asks dir handle _ _ _ xcs bd.lt bh.lt (bd.cell (i := 0) rfl) (bh.cell (i := 0) rfl)))
 clear hx bx bd bh hb3
 generalize hm : xcs.length = m at *
 generalize hfi : firstV (isC dir handle) xcs 0 = fi at *
 clear hfi
 unfold wtrV
 simp only [hm]
 clear hm
 have HQ : Hid (∀ b : Bool, xon = b -> decide (0 <= placeS (Wtr.p ⟨b, xtk, xsq, XA, xc, xcs⟩) dir handle) = (decide (0 <= fi) && b) /\ (0 <= placeS (Wtr.p ⟨b, xtk, xsq, XA, xc, xcs⟩) dir handle -> fi = placeS (Wtr.p ⟨b, xtk, xsq, XA, xc, xcs⟩) dir handle)) := Zd (by
  rintro b rfl
  rw [HPL.out]
  cases xon
  . simp
  . simp)
 clear HPL
 cases xon
 all_goals
  have HR := Zd (HQ.out _ rfl)
  clear HQ
  by_cases h0 : 0 <= fi
  . have q0 : max fi 0 = fi := by omega
    go_enter Tryz.func223, Tryz.ntmps223
    go_upto_region 1 with fail
    generalize ((w.alloc (.cells #[.bool _, .int .i64 xtk, .int .i64 xsq, .slice XA m xc] 128)).alloc (.cells #[.int .i64 dir] 3)).alloc (.cells #[.int .i64 handle] 3) = W3 at *
    have y3 := HBX.out.cell (i := 3) rfl
    go_upto_region 2 with (refine HIX.out.mono ?_; rintro er w1 ⟨rfl, hb1⟩; have HB1 := Zd hb1; have y0 := (HBX.out.below hb1 HBX.out.lt).cell (i := 0) rfl)
    clear y3 hb1
    go_region
    go_wp2_with fail
    go_ret2
    refine ⟨fi, ?_, HR.out.2, (HB3.out.trans (HB1.out.mono HB3.out.size)).drew⟩
    rw [HR.out.1, decide_eq_true h0]
    rfl
  . obtain rfl : fi = -1 := by omega
    go_enter Tryz.func223, Tryz.ntmps223
    go_upto_region 1 with fail
    generalize ((w.alloc (.cells #[.bool _, .int .i64 xtk, .int .i64 xsq, .slice XA m xc] 128)).alloc (.cells #[.int .i64 dir] 3)).alloc (.cells #[.int .i64 handle] 3) = W3 at *
    have y3 := HBX.out.cell (i := 3) rfl
    go_upto_region 2 with (refine HIX.out.mono ?_; rintro er w1 ⟨rfl, hb1⟩; have HB1 := Zd hb1)
    clear y3 hb1
    go_region
    go_wp2_with fail
    go_ret2
    have e1 := HR.out.1
    rw [decide_eq_false (show ¬ (0 : Int) <= -1 by decide), Bool.false_and, decide_eq_false_iff_not] at e1
    refine ⟨0, ?_, fun h => absurd h e1, (HB3.out.trans (HB1.out.mono HB3.out.size)).drew⟩
    rw [HR.out.1, decide_eq_false (show ¬ (0 : Int) <= -1 by decide)]
    rfl
theorem mem_getD {α : Type} {l : List α} {k : Nat} {d : α} (h : k < l.length) : l.getD k d ∈ l := by simp [List.getD, h]
theorem firstK_step {l : List WtP} {dir handle : Int} {k : Nat} : firstK l dir handle (k + 1) = if placeS (l.getD k WtP.none) dir handle < 0 then firstK l dir handle k else match firstK l dir handle k with
 | .none => some (k, placeS (l.getD k WtP.none) dir handle)
 | some (t, j) => if (l.getD k WtP.none).ticket < (l.getD t WtP.none).ticket then some (k, placeS (l.getD k WtP.none) dir handle) else some (t, j) := rfl
theorem wFirst_any (A : Option Addr) (n c : Nat) (l : List Wtr) (dir handle : Int) (w : World) (h : WtsAt w A n l) :
  Calls Tryz.prog 210 #[.slice A n c, .int .i64 dir, .int .i64 handle] w fun e w' => e = .returned (.tuple #[.int .i64 (trd (firstS (l.map Wtr.p) dir handle)), .int .i64 (wch (firstS (l.map Wtr.p) dir handle)), .bool (firstS (l.map Wtr.p) dir handle).isSome]) /\ Below w.heap.size w w' := by
 have HH := Zd h
 have HLE : Hid ((l.map Wtr.p).length = n) := Zd (by rw [List.length_map]; exact h.len)
 have HF : Hid (firstS (l.map Wtr.p) dir handle = firstK (l.map Wtr.p) dir handle n) := Zd (by unfold firstS; rw [HLE.out])
 have hn := h.few
 clear h
 go_enter Tryz.func210, Tryz.ntmps210
 go_upto_region 1 with fail
 go_wp2_with fail
 go_loopg [15, 6, 7, 8] n (fun gg i th wh ok wr => ∃ (k : Nat), k <= n /\ gg = n - k /\ i = .int .i64 k /\ th = .int .i64 (trd (firstK (l.map Wtr.p) dir handle k)) /\ wh = .int .i64 (wch (firstK (l.map Wtr.p) dir handle k)) /\ ok = .bool (firstK (l.map Wtr.p) dir handle k).isSome /\ Below w.heap.size w wr)
 case atStart => exact ⟨0, Nat.zero_le _, rfl, rfl, rfl, rfl, rfl, Below.refl _ _⟩
 case round =>
  obtain ⟨k, hk, hg, rfl, rfl, rfl, rfl, hb⟩ := hrel
  have HG := Zd hg
  have HB := Zd hb
  clear hg hb
  by_cases hlt : k < n
  . have q1 : (k : Int) < ((n : Nat) : Int) := by omega
    have hat := HH.out.below HB.out
    have HAT := Zd hat
    obtain ⟨b, o, hA, hbl, c0, c1, c2, c3⟩ := hat.pat hlt
    clear hat
    subst hA
    have HST := Zd (firstK_step (l := l.map Wtr.p) (dir := dir) (handle := handle) (k := k))
    rw [wtr_map_getD] at HST
    have hx : l.getD k Wtr.none ∈ l := mem_getD (by rw [HH.out.len]; exact hlt)
    have HHS := Zd (fun W (hW : Below wr.heap.size wr W) => whas_any (l.getD k Wtr.none) dir handle W ((HAT.out.cs _ hx).below hW) (HAT.out.csl _ hx))
    have HRD : Hid (∀ t, t < n -> ∃ b' o', some (⟨b, o, none⟩ : Addr) = some ⟨b', o', none⟩ /\ wr.cell? ⟨b', o' + t * 4 + 1, none⟩ = some (.int .i64 (l.getD t Wtr.none).ticket)) := Zd (fun t ht => by
     obtain ⟨b', o', h1, _, _, h2, _⟩ := HAT.out.pat ht
     exact ⟨b', o', h1, h2⟩)
    clear hx
    generalize hxx : l.getD k Wtr.none = x at *
    obtain ⟨xon, xtk, xsq, XA, xc, xcs⟩ := x
    generalize hp : placeS (Wtr.p ⟨xon, xtk, xsq, XA, xc, xcs⟩) dir handle = p at *
    unfold wtrV at HHS
    simp only at HHS c0 c1 c2 c3
    generalize hm : xcs.length = m at *
    have HXX := Zd hxx
    clear hxx hm hp
    have hlo : firstK (l.map Wtr.p) dir handle k = .none ∨ ∃ t j, firstK (l.map Wtr.p) dir handle k = some (t, j) /\ t < k := by
     cases e : firstK (l.map Wtr.p) dir handle k with
     | none => exact .inl rfl
     | some y => exact .inr ⟨y.1, y.2, rfl, (firstK_lt _ _ _ _ _ _ e).1⟩
    generalize hT : trd (firstK (l.map Wtr.p) dir handle k) = T at *
    generalize hW : wch (firstK (l.map Wtr.p) dir handle k) = V at *
    generalize hO : (firstK (l.map Wtr.p) dir handle k).isSome = O at *
    have HWR : Hid (∀ w1 : World, Below (wr.alloc (.cells #[.bool xon, .int .i64 xtk, .int .i64 xsq, .slice XA m xc] 128)).heap.size (wr.alloc (.cells #[.bool xon, .int .i64 xtk, .int .i64 xsq, .slice XA m xc] 128)) w1 -> Below wr.heap.size wr w1 /\ w1.cell? ⟨wr.heap.size, 1, none⟩ = some (.int .i64 xtk)) := Zd (fun w1 h1 => by
     have h0 := (Below.refl wr.heap.size wr).alloc (Nat.le_refl _) (.cells #[.bool xon, .int .i64 xtk, .int .i64 xsq, .slice XA m xc] 128)
     refine ⟨h0.trans (h1.mono h0.size), ?_⟩
     have hx := Blk.new wr 128 [.bool xon, .int .i64 xtk, .int .i64 xsq, .slice XA m xc]
     exact (hx.below h1 hx.lt).cell (i := 1) rfl)
    by_cases hp0 : 0 <= p
    . have hd : decide (0 <= p) = true := decide_eq_true hp0
      rw [hd] at HHS
      rcases hlo with e0 | ⟨t, j, e0, htk⟩
      . have HE := Zd (show firstK (l.map Wtr.p) dir handle (k + 1) = some (k, p) by rw [HST.out, e0, if_neg (by omega)])
        rw [e0] at hT hW hO
        obtain rfl : T = 0 := hT.symm
        obtain rfl : V = 0 := hW.symm
        obtain rfl : O = false := hO.symm
        clear HST hd e0 hT hW hO
        go_upto_region 5 with (refine (HHS.out _ ((Below.refl _ _).alloc (Nat.le_refl _) _)).mono ?_; rintro er w1 ⟨v, rfl, hv, hb1⟩; obtain rfl := hv hp0; obtain ⟨hB, hC⟩ := HWR.out _ hb1; have HB1 := Zd hB)
        clear HWR HHS hb1 hB hC hv
        go_quiet (fail)
        go_wp2_with fail
        go_roundg (n - (k + 1))
        case measure => rw [HG.out]; omega
        case rel => exact ⟨k + 1, by omega, rfl, by go_num, by rw [HE.out]; rfl, by rw [HE.out]; rfl, by rw [HE.out]; rfl, Below.drewN' (HB.out.trans (HB1.out.mono HB.out.size)) _⟩
      . obtain ⟨b', o', hbo, hcr⟩ := HRD.out t (by omega)
        injection hbo with hbo
        injection hbo with hb' ho'
        subst hb' ho'
        have hgt : (((l.map Wtr.p).getD t WtP.none).ticket) = (l.getD t Wtr.none).ticket := by rw [wtr_map_getD]; rfl
        rw [e0] at hT hW hO
        obtain rfl : T = (t : Int) := hT.symm
        obtain rfl : V = j := hW.symm
        obtain rfl : O = true := hO.symm
        have hxt : (Wtr.p ⟨xon, xtk, xsq, XA, xc, xcs⟩).ticket = xtk := rfl
        by_cases hcmp : xtk < (l.getD t Wtr.none).ticket
        . have HE := Zd (show firstK (l.map Wtr.p) dir handle (k + 1) = some (k, p) by rw [HST.out, e0, if_neg (by omega)]; simp only; rw [if_pos (by rw [hgt, hxt]; exact hcmp)])
          generalize (l.getD t Wtr.none).ticket = tt at *
          clear hgt hxt
          have hcd : decide (xtk < tt) = true := decide_eq_true hcmp
          clear HST hd e0 hT hW hO HRD
          go_upto_region 5 with (refine (HHS.out _ ((Below.refl _ _).alloc (Nat.le_refl _) _)).mono ?_; rintro er w1 ⟨v, rfl, hv, hb1⟩; obtain rfl := hv hp0; obtain ⟨hB, hC⟩ := HWR.out _ hb1; have HB1 := Zd hB; have hR := (hB.cell (p := ⟨b, o + t * 4 + 1, none⟩) hbl).trans hcr)
          clear HWR HHS hb1 hB hcr hv
          go_quiet (fail)
          go_wp2_with fail
          go_roundg (n - (k + 1))
          case measure => rw [HG.out]; omega
          case rel => exact ⟨k + 1, by omega, rfl, by go_num, by rw [HE.out]; rfl, by rw [HE.out]; rfl, by rw [HE.out]; rfl, Below.drewN' (HB.out.trans (HB1.out.mono HB.out.size)) _⟩
        . have HE := Zd (show firstK (l.map Wtr.p) dir handle (k + 1) = some (t, V) by rw [HST.out, e0, if_neg (by omega)]; simp only; rw [if_neg (by rw [hgt, hxt]; exact hcmp)])
          generalize (l.getD t Wtr.none).ticket = tt at *
          clear hgt hxt
          have hcd : decide (xtk < tt) = false := decide_eq_false hcmp
          clear HST hd e0 hT hW hO HRD
          go_upto_region 5 with (refine (HHS.out _ ((Below.refl _ _).alloc (Nat.le_refl _) _)).mono ?_; rintro er w1 ⟨v, rfl, hv, hb1⟩; obtain rfl := hv hp0; obtain ⟨hB, hC⟩ := HWR.out _ hb1; have HB1 := Zd hB; have hR := (hB.cell (p := ⟨b, o + t * 4 + 1, none⟩) hbl).trans hcr)
          clear HWR HHS hb1 hB hcr hv
          go_quiet (fail)
          go_wp2_with fail
          go_roundg (n - (k + 1))
          case measure => rw [HG.out]; omega
          case rel => exact ⟨k + 1, by omega, rfl, by go_num, by rw [HE.out]; rfl, by rw [HE.out]; rfl, by rw [HE.out]; rfl, Below.drewN' (HB.out.trans (HB1.out.mono HB.out.size)) _⟩
    . have hd : decide (0 <= p) = false := decide_eq_false hp0
      rw [hd] at HHS
      have HE := Zd (show firstK (l.map Wtr.p) dir handle (k + 1) = firstK (l.map Wtr.p) dir handle k by rw [HST.out, if_pos (by omega)])
      clear HST hd hlo HRD
      go_upto_region 5 with (refine (HHS.out _ ((Below.refl _ _).alloc (Nat.le_refl _) _)).mono ?_; rintro er w1 ⟨v, rfl, hv, hb1⟩; obtain ⟨hB, hC⟩ := HWR.out _ hb1; have HB1 := Zd hB)
      clear HWR HHS hb1 hB hC hv
      go_quiet (fail)
      go_wp2_with fail
      go_roundg (n - (k + 1))
      case measure => rw [HG.out]; omega
      case rel => exact ⟨k + 1, by omega, rfl, by go_num, by rw [HE.out, hT], by rw [HE.out, hW], by rw [HE.out, hO], Below.drewN' (HB.out.trans (HB1.out.mono HB.out.size)) _⟩
  . obtain rfl : k = n := by omega
    have q1 : ¬ (k : Int) < (k : Int) := by omega
    go_wp2_with fail
    go_ret3
    exact ⟨by rw [HF.out]; rfl, HB.out⟩
structure ChAt (w : World) (x : Chn) : Prop where
 rd : Rd w x.A (ints x.buf)
 few : x.buf.length <= 1048576
 nil : x.A = none -> x.buf.length = 0 /\ x.c = 0
theorem ChAt.below {w w' : World} {x : Chn} (h : ChAt w x) (hb : Below w.heap.size w w') : ChAt w' x := ⟨h.rd.below hb, h.few, h.nil⟩
def OwnBuf (base : Nat) (w : World) (x : Chn) : Prop := w.ownsRow base 3 1 (.slice x.A x.buf.length x.c) x.buf.length (ints x.buf)
theorem OwnBuf.below {base : Nat} {w w' : World} {x : Chn} (h : OwnBuf base w x) (hb : Below w.heap.size w w') : OwnBuf base w' x := own_below h hb
theorem OwnBuf.lower {base b : Nat} {w : World} {x : Chn} (h : OwnBuf base w x) (hb : b <= base) : OwnBuf b w x := own_lower h hb
theorem OwnBuf.at_ {base : Nat} {w : World} {x : Chn} (h : OwnBuf base w x) (hn : x.buf.length <= 1048576) : ChAt w x := ⟨own_rd h, hn, fun hA => by have := own_none h hA; exact ⟨this.1, this.2.1⟩⟩
def RetChn (c : ChP) (w : World) (e : Ending) (w' : World) : Prop := ∃ x : Chn, e = .returned (chnV x) /\ x.p = c /\ OwnBuf w.heap.size w' x /\ Below w.heap.size w w'
theorem chn_load {w : World} {g : Nat} {cs : List Value} {x : Chn} (h : Blk w g 124 cs) (hc : cs = x.cells) : (loadVar 124 ⟨g, 0, none⟩).run Tryz.prog w = .ok (chnV x) w := by
 subst hc
 exact run_loadVar_row (P := Tryz.prog) w g 124 124 _ (0, 0) _ h Tryz.underlying124 rfl (by kernel_rfl)
theorem Blk.other {w : World} {g g' : Nat} {t : TypeId} {cs : List Value} (h : Blk w g t cs) (hne : g ≠ g') (i : Nat) (u : Value) : Blk (w.setCell ⟨g', i, none⟩ u) g t cs :=
 (Below.heap_setCell w ⟨g', i, none⟩ u g hne).trans h
theorem chn_put {w : World} {g : Nat} {a b c d e v0 v1 v2 v3 v4 : Value} (h : Blk w g 124 [a, b, c, d, e]) :
  Blk (((((w.setCell ⟨g, 0, none⟩ v0).setCell ⟨g, 1, none⟩ v1).setCell ⟨g, 2, none⟩ v2).setCell ⟨g, 3, none⟩ v3).setCell ⟨g, 4, none⟩ v4) g 124 [v0, v1, v2, v3, v4] :=
 ((((h.set_ 0 v0).set_ 1 v1).set_ 2 v2).set_ 3 v3).set_ 4 v4
theorem below5 {B : Nat} {a w : World} {g : Nat} {v0 v1 v2 v3 v4 : Value} (h : Below B a w) (hg : B <= g) :
  Below B a (((((w.setCell ⟨g, 0, none⟩ v0).setCell ⟨g, 1, none⟩ v1).setCell ⟨g, 2, none⟩ v2).setCell ⟨g, 3, none⟩ v3).setCell ⟨g, 4, none⟩ v4) :=
 ((((h.setCell (p := ⟨g, 0, none⟩) hg v0).setCell (p := ⟨g, 1, none⟩) hg v1).setCell (p := ⟨g, 2, none⟩) hg v2).setCell (p := ⟨g, 3, none⟩) hg v3).setCell (p := ⟨g, 4, none⟩) hg v4
theorem own_low5 {w : World} {base : Nat} {e : TypeId} {s n g : Nat} {v : Value} {xs : List Value} {v0 v1 v2 v3 v4 : Value} (h : w.ownsRow base e s v n xs) (hg : g < base) :
  (((((w.setCell ⟨g, 0, none⟩ v0).setCell ⟨g, 1, none⟩ v1).setCell ⟨g, 2, none⟩ v2).setCell ⟨g, 3, none⟩ v3).setCell ⟨g, 4, none⟩ v4).ownsRow base e s v n xs :=
 own_low (own_low (own_low (own_low (own_low h hg 0 v0) hg 1 v1) hg 2 v2) hg 3 v3) hg 4 v4
theorem cCopy_any (x : Chn) (w : World) (h : ChAt w x) :
  Calls Tryz.prog 170 #[chnV x] w (RetChn x.p w) := by
 obtain ⟨gen, cap, us, cl, BA, bc, bl⟩ := x
 obtain ⟨hR, hF, _⟩ := h
 simp only at hR hF
 have HP : Hid (Chn.p ⟨gen, cap, us, cl, BA, bc, bl⟩ = ⟨gen, cap, us, cl, bl⟩) := Zd rfl
 have HCL := Zd (fun W (hW : Rd W BA (ints bl)) => CloneI_any BA bl.length bc (ints bl) W (by omega) (by rw [ints_length]; omega) (ints_one _) hW)
 have HR := Zd hR
 clear hR
 unfold chnV
 simp only
 generalize hm : bl.length = m at *
 have HM := Zd hm
 clear hm
 have HB0 := Zd (((Below.refl w.heap.size w).alloc (Nat.le_refl _) (.cells #[.int .i64 gen, .int .i64 cap, .bool us, .bool cl, .slice BA m bc] 124)).alloc (by simp) (.cells #[.int .i64 0, .int .i64 0, .bool false, .bool false, .slice none 0 0] 124))
 have HBX : Hid (Blk ((w.alloc (.cells #[.int .i64 gen, .int .i64 cap, .bool us, .bool cl, .slice BA m bc] 124)).alloc (.cells #[.int .i64 0, .int .i64 0, .bool false, .bool false, .slice none 0 0] 124)) w.heap.size 124 [.int .i64 gen, .int .i64 cap, .bool us, .bool cl, .slice BA m bc]) := Zd ((Blk.new w _ _).alloc _)
 have HBY : Hid (Blk ((w.alloc (.cells #[.int .i64 gen, .int .i64 cap, .bool us, .bool cl, .slice BA m bc] 124)).alloc (.cells #[.int .i64 0, .int .i64 0, .bool false, .bool false, .slice none 0 0] 124)) (w.heap.size + 1) 124 [.int .i64 0, .int .i64 0, .bool false, .bool false, .slice none 0 0]) := Zd (blk_new (by simp))
 go_enter Tryz.func170, Tryz.ntmps170
 go_upto_region 1 with fail
 generalize (w.alloc (.cells #[.int .i64 gen, .int .i64 cap, .bool us, .bool cl, .slice BA m bc] 124)).alloc (.cells #[.int .i64 0, .int .i64 0, .bool false, .bool false, .slice none 0 0] 124) = W0 at *
 have y4 := HBX.out.cell (i := 4) rfl
 go_wp2_with (refine (HCL.out _ (HR.out.below HB0.out)).mono ?_; rintro er w1 ⟨A1, c1, rfl, hown1, hb1⟩
              have HO1 := Zd hown1
              have HB1 := Zd hb1
              have HX1 := Zd (HBX.out.below hb1 HBX.out.lt)
              have HY1 := Zd (HBY.out.below hb1 HBY.out.lt)
              clear y4
              have y0 := HX1.out.cell (i := 0) rfl
              have y1 := HX1.out.cell (i := 1) rfl
              have y2 := HX1.out.cell (i := 2) rfl
              have y3 := HX1.out.cell (i := 3) rfl
              have y4 := HX1.out.cell (i := 4) rfl
              have z4 := HX1.out.frozen 4
              have u0 := HY1.out.cell (i := 0) rfl
              have u1 := HY1.out.cell (i := 1) rfl
              have u2 := HY1.out.cell (i := 2) rfl
              have u3 := HY1.out.cell (i := 3) rfl
              have u4 := HY1.out.cell (i := 4) rfl
              have v0 := HY1.out.frozen 0
              have v1 := HY1.out.frozen 1
              have v2 := HY1.out.frozen 2
              have v3 := HY1.out.frozen 3
              have v4 := HY1.out.frozen 4
              clear hown1 hb1)
 have hS := HB0.out.size
 have hbl : Below w.heap.size w w1 := HB0.out.trans (HB1.out.mono hS)
 have hX : w.heap.size + 1 < W0.heap.size := HBY.out.lt
 refine bodyPost_ret (v := chnV ⟨gen, cap, us, cl, A1, c1, bl⟩) (ret_cell (g := w.heap.size + 1) rfl rfl (chn_load (x := ⟨gen, cap, us, cl, A1, c1, bl⟩) (chn_put ((HY1.out.other (by omega) 4 (.slice A1 m c1)))) (by simp only [Chn.cells, HM.out]))) rfl ?_
 refine ⟨⟨gen, cap, us, cl, A1, c1, bl⟩, rfl, HP.out.symm, ?_, below5 (hbl.setCell (p := ⟨w.heap.size, 4, none⟩) (Nat.le_refl _) _) (by omega)⟩
 unfold OwnBuf
 simp only [HM.out]
 exact own_lower (own_low5 (own_low HO1.out (by omega) 4 _) hX) hS
def Tld.cells (a : TldP) : List Value := [.int .i64 a.1, .int .i64 a.2.seq, .int .i64 a.2.case_, .int .i64 a.2.code, .int .i64 a.2.value]
abbrev tldV (a : TldP) : Value := .agg #[.int .i64 a.1, .int .i64 a.2.seq, .int .i64 a.2.case_, .int .i64 a.2.code, .int .i64 a.2.value]
instance : Cellful TldP where
 cells := Tld.cells
 s := 5
 dflt := (0, Resr.none)
 len := fun _ => rfl
 one := fun a u hu => by
  simp only [Tld.cells, List.mem_cons, List.not_mem_nil, or_false] at hu
  rcases hu with rfl | rfl | rfl | rfl | rfl <;> rfl
theorem tld_cells {w : World} {b o : Nat} {l : List TldP} (hc : ∀ k v, (rows l)[k]? = some v -> w.cell? ⟨b, o + k, none⟩ = some v) {k : Nat} (hk : k < l.length) {x : TldP} (hx : l.getD k (0, Resr.none) = x) :
  w.cell? ⟨b, o + k * 5, none⟩ = some (.int .i64 x.1) /\ w.cell? ⟨b, o + k * 5 + 1, none⟩ = some (.int .i64 x.2.seq) /\ w.cell? ⟨b, o + k * 5 + 2, none⟩ = some (.int .i64 x.2.case_) /\ w.cell? ⟨b, o + k * 5 + 3, none⟩ = some (.int .i64 x.2.code) /\ w.cell? ⟨b, o + k * 5 + 4, none⟩ = some (.int .i64 x.2.value) := by
 have h := rec_cell hc hk hx
 exact ⟨h 0 _ rfl, h 1 _ rfl, h 2 _ rfl, h 3 _ rfl, h 4 _ rfl⟩
theorem tld_load {w : World} {g : Nat} {x : TldP} (h : Blk w g 233 (Tld.cells x)) : (loadVar 233 ⟨g, 0, none⟩).run Tryz.prog w = .ok (tldV x) w :=
 run_loadVar_row (P := Tryz.prog) w g 233 233 _ (0, 0) _ h Tryz.underlying233 rfl (by kernel_rfl)
theorem cEnded_any (A : Option Addr) (n c : Nat) (l : List Wtr) (t : Nat) (which code value : Int) (w : World) (h : WtsAt w A n l) (ht : t < n) :
  Calls Tryz.prog 215 #[.slice A n c, .int .i64 t, .int .i64 which, .int .i64 code, .int .i64 value] w fun e w' => e = .returned (tldV (endedS (l.map Wtr.p) t which code value)) /\ Below w.heap.size w w' := by
 obtain ⟨b, o, hA, hbl, _, _, c2, _⟩ := h.pat ht
 subst hA
 have HE : Hid (endedS (l.map Wtr.p) t which code value = ((t : Int), (⟨(l.getD t Wtr.none).seq, which, code, value⟩ : Resr))) := Zd (by
  unfold endedS
  rw [Int.toNat_natCast, wtr_map_getD]
  rfl)
 rw [HE.out]
 clear HE h
 generalize (l.getD t Wtr.none).seq = sq at *
 have hne : ¬ b = w.heap.size := by omega
 have c2' : ∀ ob, (w.alloc ob).cell? ⟨b, o + t * 4 + 2, none⟩ = some (.int .i64 sq) := fun ob => by rw [World.cell?_alloc_lt _ _ _ (by exact hbl)]; exact c2
 clear c2
 have HY : Hid (Blk (w.alloc (.cells #[.int .i64 0, .int .i64 0, .int .i64 0, .int .i64 0, .int .i64 0] 233)) w.heap.size 233 [.int .i64 0, .int .i64 0, .int .i64 0, .int .i64 0, .int .i64 0]) := Zd (Blk.new w _ _)
 go_enter Tryz.func215, Tryz.ntmps215
 go_wp2_with fail
 exact bodyPost_ret (v := tldV ((t : Int), (⟨sq, which, code, value⟩ : Resr))) (ret_cell (g := w.heap.size) rfl rfl (tld_load (x := ((t : Int), (⟨sq, which, code, value⟩ : Resr))) (Blk.new w 233 (Tld.cells ((t : Int), (⟨sq, which, code, value⟩ : Resr)))))) rfl ⟨rfl, (Below.refl _ _).alloc (Nat.le_refl _) _⟩
end Go.Proofs.YtieglgahfeecbaaGreatDoor
