/- tickets: note, walked. -/
import Derived.Test.YtmllbailfbjoeaaTk1
namespace Go.Proofs.Ytmllbailfbjoeaa
open Go.RowKit Go.Sort

abbrev resV (s c e v : Int) : Value := .agg #[.int .i64 s, .int .i64 c, .int .i64 e, .int .i64 v]
theorem nte_cells {w : World} {g : Nat} {n : Nte} (h : Blk w g 119 n.cells) : w.cell? ⟨g, 0, none⟩ = some (.int .i64 n.kind) ∧ w.cell? ⟨g, 1, none⟩ = some (.int .i64 n.thread) ∧ w.cell? ⟨g, 2, none⟩ = some (.int .i64 n.seq) ∧ w.cell? ⟨g, 3, none⟩ = some (.int .i64 n.time) ∧ w.cell? ⟨g, 4, none⟩ = some (.int .i64 n.rkind) ∧ w.cell? ⟨g, 5, none⟩ = some (.int .i64 n.rarg) ∧ w.cell? ⟨g, 6, none⟩ = some (.int .i64 n.rvalue) ∧ w.cell? ⟨g, 7, none⟩ = some (.bool n.rdef) ∧ w.cell? ⟨g, 8, none⟩ = some (.slice n.ca n.cl n.cc) ∧ w.cell? ⟨g, 9, none⟩ = some (.int .i64 n.qseq) ∧ w.cell? ⟨g, 10, none⟩ = some (.int .i64 n.qcase) ∧ w.cell? ⟨g, 11, none⟩ = some (.int .i64 n.qcode) ∧ w.cell? ⟨g, 12, none⟩ = some (.int .i64 n.qvalue) :=
  ⟨h.cell rfl, h.cell rfl, h.cell rfl, h.cell rfl, h.cell rfl, h.cell rfl, h.cell rfl, h.cell rfl, h.cell rfl, h.cell rfl, h.cell rfl, h.cell rfl, h.cell rfl⟩

set_option maxHeartbeats 8000000 in
set_option maxRecDepth 100000 in
theorem note_any (gw gm gl gq B b0 sz tr : Nat) (q : TQ) (kind : Int) (t : Nat) (rs re rv : Int) (w : World) (ht : t < q.l.length) (hn : q.ns.length ≤ 4096) (hQ : QIs gw gm gl gq B b0 sz tr q w) :
    Calls Try.prog 118 #[.pointer (some ⟨gq, 0, none⟩), .int .i64 kind, .int .i64 t, resV rs 0 re rv] w (fun e w' => e = .returned (.tuple #[]) ∧ QPost gw gm gl gq B b0 sz tr (q.note kind t rs re rv) w w') := by
  obtain ⟨cb, cs, AC, cc, AN, cn, hQ⟩ := hQ
  have HQ := Lib.hid hQ
  have HB0 := Lib.hid hQ.base
  obtain ⟨c0, c1, c2, c3, c4, c5⟩ := que_cells hQ.box
  generalize hx : q.l.getD t Man.none = x
  obtain ⟨m0, m1, m2, m3, m4⟩ := man_cells hQ.men ht hx
  have hltq : gq < w.heap.size := hQ.box.lt
  have hltl : gl < w.heap.size := hQ.men.lt
  have HX := Lib.hid hx
  clear hx hQ
  have q1 : (0 : Int) ≤ (t : Int) := by omega
  have q2 : (t : Int) < (q.l.length : Int) := by omega
  generalize hnn : q.ns.length = nn at *
  have HNN := Lib.hid hnn
  generalize hth : q.l.length = th at *
  have HTH := Lib.hid hth
  clear hnn hth
  go_enter Try.func118, Try.ntmps118
  go_upto_region 2 with (fail)
  have HBW := Lib.hid (show Below w.heap.size w ((w.alloc (.cells #[.int .i64 rs, .int .i64 0, .int .i64 re, .int .i64 rv] 117)).alloc (.cells #[.int .i64 x.pc, .int .i64 x.seq, .int .i64 x.value, .int .i64 x.at_, .int .i64 x.try_] 113)) from ((Below.refl _ _).alloc (Nat.le_refl _) _).alloc (by simp) _)
  have HBR := Lib.hid (show Blk ((w.alloc (.cells #[.int .i64 rs, .int .i64 0, .int .i64 re, .int .i64 rv] 117)).alloc (.cells #[.int .i64 x.pc, .int .i64 x.seq, .int .i64 x.value, .int .i64 x.at_, .int .i64 x.try_] 113)) w.heap.size 117 [.int .i64 rs, .int .i64 0, .int .i64 re, .int .i64 rv] from (Blk.new w _ _).alloc _)
  have HBX := Lib.hid (show Blk ((w.alloc (.cells #[.int .i64 rs, .int .i64 0, .int .i64 re, .int .i64 rv] 117)).alloc (.cells #[.int .i64 x.pc, .int .i64 x.seq, .int .i64 x.value, .int .i64 x.at_, .int .i64 x.try_] 113)) (w.heap.size + 1) 113 x.cells from blk_new (by simp))
  have HWS := Lib.hid (show ((w.alloc (.cells #[.int .i64 rs, .int .i64 0, .int .i64 re, .int .i64 rv] 117)).alloc (.cells #[.int .i64 x.pc, .int .i64 x.seq, .int .i64 x.value, .int .i64 x.at_, .int .i64 x.try_] 113)).heap.size = w.heap.size + 2 by simp)
  generalize (w.alloc (.cells #[.int .i64 rs, .int .i64 0, .int .i64 re, .int .i64 rv] 117)).alloc (.cells #[.int .i64 x.pc, .int .i64 x.seq, .int .i64 x.value, .int .i64 x.at_, .int .i64 x.try_] 113) = W at *
  have HQW := Lib.hid (HQ.out.below HBW.out)
  have hW5 := HQW.out.box.cell (i := 5) rfl
  have hWx := HBX.out.cell (i := 1) rfl
  have hr0 := HBR.out.cell (i := 0) rfl
  have hr1 := HBR.out.cell (i := 1) rfl
  have hr2 := HBR.out.cell (i := 2) rfl
  have hr3 := HBR.out.cell (i := 3) rfl
  clear c0 c1 c2 c3 c4 c5 m0 m1 m2 m3 m4
  have n1 : ¬ gq = W.heap.size := by have := HWS.out; omega
  have n2 : ¬ w.heap.size = W.heap.size := by have := HWS.out; omega
  have n3 : ¬ w.heap.size + 1 = W.heap.size := by have := HWS.out; omega
  have u0 : ∀ o, (W.alloc o).drew.cell? ⟨w.heap.size, 0, none⟩ = some (.int .i64 rs) := fun o => (HBR.out.alloc o).cell (i := 0) rfl
  have u1 : ∀ o, (W.alloc o).drew.cell? ⟨w.heap.size, 1, none⟩ = some (.int .i64 0) := fun o => (HBR.out.alloc o).cell (i := 1) rfl
  have u2 : ∀ o, (W.alloc o).drew.cell? ⟨w.heap.size, 2, none⟩ = some (.int .i64 re) := fun o => (HBR.out.alloc o).cell (i := 2) rfl
  have u3 : ∀ o, (W.alloc o).drew.cell? ⟨w.heap.size, 3, none⟩ = some (.int .i64 rv) := fun o => (HBR.out.alloc o).cell (i := 3) rfl
  have u4 : ∀ o, (W.alloc o).drew.cell? ⟨gq, 5, none⟩ = some (.int .i64 q.time) := fun o => (HQW.out.alloc o).box.cell (i := 5) rfl
  have u5 : ∀ o, (W.alloc o).drew.cell? ⟨w.heap.size + 1, 1, none⟩ = some (.int .i64 x.seq) := fun o => (HBX.out.alloc o).cell (i := 1) rfl
  go_region
  clear u0 u1 u2 u3 u4 u5 hW5 hWx hr0 hr1 hr2 hr3 n1 n2 n3
  have HN2 := Lib.hid (show Blk (W.alloc (.cells #[.int .i64 kind, .int .i64 t, .int .i64 x.seq, .int .i64 q.time, .int .i64 9, .int .i64 0, .int .i64 0, .bool false, .slice none 0 0, .int .i64 rs, .int .i64 0, .int .i64 re, .int .i64 rv] 119)).drew W.heap.size 119 [.int .i64 kind, .int .i64 t, .int .i64 x.seq, .int .i64 q.time, .int .i64 9, .int .i64 0, .int .i64 0, .bool false, .slice none 0 0, .int .i64 rs, .int .i64 0, .int .i64 re, .int .i64 rv] from (blk_new rfl).drew)
  have HB2 := Lib.hid (show Below W.heap.size W (W.alloc (.cells #[.int .i64 kind, .int .i64 t, .int .i64 x.seq, .int .i64 q.time, .int .i64 9, .int .i64 0, .int .i64 0, .bool false, .slice none 0 0, .int .i64 rs, .int .i64 0, .int .i64 re, .int .i64 rv] 119)).drew from below1 _ _)
  generalize (W.alloc (.cells #[.int .i64 kind, .int .i64 t, .int .i64 x.seq, .int .i64 q.time, .int .i64 9, .int .i64 0, .int .i64 0, .bool false, .slice none 0 0, .int .i64 rs, .int .i64 0, .int .i64 re, .int .i64 rv] 119)).drew = W2 at *
  have HQ2 := Lib.hid (HQW.out.below HB2.out)
  have HX2 := Lib.hid (HBX.out.below HB2.out (by have := HWS.out; omega))
  have HBT := Lib.hid (HBW.out.trans (HB2.out.mono HBW.out.size))
  have hWw : w.heap.size < W.heap.size := by have := HWS.out; omega
  have HFR := Lib.hid (HQW.out.fresh (Nat.le_refl _))
  clear HB2 HBW HBR HBX HQW HQ
  have x0 : W2.cell? ⟨w.heap.size + 1, 0, none⟩ = some (.int .i64 x.pc) := HX2.out.cell rfl
  have x2 : W2.cell? ⟨w.heap.size + 1, 2, none⟩ = some (.int .i64 x.value) := HX2.out.cell rfl
  obtain ⟨n0, n1, n2, n3, n4, n5, n6, n7, n8, n9, n10, n11, n12⟩ : W2.cell? ⟨W.heap.size, 0, none⟩ = some (.int .i64 kind) ∧ W2.cell? ⟨W.heap.size, 1, none⟩ = some (.int .i64 t) ∧ W2.cell? ⟨W.heap.size, 2, none⟩ = some (.int .i64 x.seq) ∧ W2.cell? ⟨W.heap.size, 3, none⟩ = some (.int .i64 q.time) ∧ W2.cell? ⟨W.heap.size, 4, none⟩ = some (.int .i64 9) ∧ W2.cell? ⟨W.heap.size, 5, none⟩ = some (.int .i64 0) ∧ W2.cell? ⟨W.heap.size, 6, none⟩ = some (.int .i64 0) ∧ W2.cell? ⟨W.heap.size, 7, none⟩ = some (.bool false) ∧ W2.cell? ⟨W.heap.size, 8, none⟩ = some (.slice none 0 0) ∧ W2.cell? ⟨W.heap.size, 9, none⟩ = some (.int .i64 rs) ∧ W2.cell? ⟨W.heap.size, 10, none⟩ = some (.int .i64 0) ∧ W2.cell? ⟨W.heap.size, 11, none⟩ = some (.int .i64 re) ∧ W2.cell? ⟨W.heap.size, 12, none⟩ = some (.int .i64 rv) :=
    ⟨HN2.out.cell rfl, HN2.out.cell rfl, HN2.out.cell rfl, HN2.out.cell rfl, HN2.out.cell rfl, HN2.out.cell rfl, HN2.out.cell rfl, HN2.out.cell rfl, HN2.out.cell rfl, HN2.out.cell rfl, HN2.out.cell rfl, HN2.out.cell rfl, HN2.out.cell rfl⟩
  have f4 := HN2.out.frozen 4
  have f5 := HN2.out.frozen 5
  have f6 := HN2.out.frozen 6
  have f7 := HN2.out.frozen 7
  have f8 := HN2.out.frozen 8
  generalize W.heap.size = gn at *
  have HPC : RowKit.Hid (x.pc = 1 ∨ x.pc = 2 ∨ ¬ (x.pc = 1 ∨ x.pc = 2)) := Lib.hid (by omega)
  have HGN : RowKit.Hid (w.heap.size < gn) := Lib.hid hWw
  have hcbn := HQ2.out.mem.row.lt
  rcases HPC.out with p1 | p1 | p1
  case' inl =>
    have b1 : (x.pc == 1) = true := by simp [p1]
    have HP := Lib.hid (Or.inl (b := x.pc = 2) p1)
    clear p1
    go_upto_region 5 with (fail)
    have HN3 := Lib.hid (((((HN2.out.set_ 4 (.int .i64 8)).set_ 5 (.int .i64 0)).set_ 6 (.int .i64 x.value)).set_ 7 (.bool false)).set_ 8 (.slice none 0 0))
    have hK : Keep (fun k => k = gn) W2 (((((W2.setCell ⟨gn, 4, none⟩ (.int .i64 8)).setCell ⟨gn, 5, none⟩ (.int .i64 0)).setCell ⟨gn, 6, none⟩ (.int .i64 x.value)).setCell ⟨gn, 7, none⟩ (.bool false)).setCell ⟨gn, 8, none⟩ (.slice none 0 0)) := (((((Keep.refl (fun k => k = gn) W2).set_ _ 4 _ (.inr rfl)).set_ _ 5 _ (.inr rfl)).set_ _ 6 _ (.inr rfl)).set_ _ 7 _ (.inr rfl)).set_ _ 8 _ (.inr rfl)
    generalize (((((W2.setCell ⟨gn, 4, none⟩ (.int .i64 8)).setCell ⟨gn, 5, none⟩ (.int .i64 0)).setCell ⟨gn, 6, none⟩ (.int .i64 x.value)).setCell ⟨gn, 7, none⟩ (.bool false)).setCell ⟨gn, 8, none⟩ (.slice none 0 0)) = W3 at *
  case' inr.inl =>
    have b1 : (x.pc == 1) = false := by simp [p1]
    have b2 : (x.pc == 2) = true := by simp [p1]
    have HP := Lib.hid (Or.inr (a := x.pc = 1) p1)
    clear p1
    go_upto_region 5 with (fail)
    have HN3 := Lib.hid (((((HN2.out.set_ 4 (.int .i64 8)).set_ 5 (.int .i64 0)).set_ 6 (.int .i64 x.value)).set_ 7 (.bool false)).set_ 8 (.slice none 0 0))
    have hK : Keep (fun k => k = gn) W2 (((((W2.setCell ⟨gn, 4, none⟩ (.int .i64 8)).setCell ⟨gn, 5, none⟩ (.int .i64 0)).setCell ⟨gn, 6, none⟩ (.int .i64 x.value)).setCell ⟨gn, 7, none⟩ (.bool false)).setCell ⟨gn, 8, none⟩ (.slice none 0 0)) := (((((Keep.refl (fun k => k = gn) W2).set_ _ 4 _ (.inr rfl)).set_ _ 5 _ (.inr rfl)).set_ _ 6 _ (.inr rfl)).set_ _ 7 _ (.inr rfl)).set_ _ 8 _ (.inr rfl)
    generalize (((((W2.setCell ⟨gn, 4, none⟩ (.int .i64 8)).setCell ⟨gn, 5, none⟩ (.int .i64 0)).setCell ⟨gn, 6, none⟩ (.int .i64 x.value)).setCell ⟨gn, 7, none⟩ (.bool false)).setCell ⟨gn, 8, none⟩ (.slice none 0 0)) = W3 at *
  case' inr.inr =>
    have b1 : (x.pc == 1) = false := by simp; omega
    have b2 : (x.pc == 2) = false := by simp; omega
    have HP := Lib.hid p1
    clear p1
    go_upto_region 5 with (fail)
    have HN3 := Lib.hid HN2.out
    have hK : Keep (fun k => k = gn) W2 W2 := Keep.refl _ W2
  all_goals
    have HNN3 : RowKit.Hid (Blk _ gn 119 (nteQ kind t x q.time rs re rv).cells) := Lib.hid (by
      have h := HN3.out
      have hp := HP.out
      first
        | (have e : (nteQ kind t x q.time rs re rv).cells = [.int .i64 kind, .int .i64 t, .int .i64 x.seq, .int .i64 q.time, .int .i64 8, .int .i64 0, .int .i64 x.value, .bool false, .slice none 0 0, .int .i64 rs, .int .i64 0, .int .i64 re, .int .i64 rv] := by simp only [nteQ, Nte.cells, if_pos hp]
           rw [e]; exact h)
        | (have e : (nteQ kind t x q.time rs re rv).cells = [.int .i64 kind, .int .i64 t, .int .i64 x.seq, .int .i64 q.time, .int .i64 9, .int .i64 0, .int .i64 0, .bool false, .slice none 0 0, .int .i64 rs, .int .i64 0, .int .i64 re, .int .i64 rv] := by simp only [nteQ, Nte.cells, if_neg hp]
           rw [e]; exact h))
    have HQ3 := Lib.hid (HQ2.out.other hK HFR.out.1 HFR.out.2.1 HFR.out.2.2)
    have HBT3 := Lib.hid (show Below w.heap.size w _ from HBT.out.trans (hK.below (fun k e => by omega) HBT.out.size))
    clear x0 x2 n0 n1 n2 n3 n4 n5 n6 n7 n8 n9 n10 n11 n12 f4 f5 f6 f7 f8 hK HN2 HQ2 HX2 HBT HN3 HP HPC hcbn
    revert HNN3 HQ3 HBT3
    generalize HNT : nteQ kind t x q.time rs re rv = n
    intro HNN3 HQ3 HBT3
    have HNT' := Lib.hid HNT
    obtain ⟨n0, n1, n2, n3, n4, n5, n6, n7, n8, n9, n10, n11, n12⟩ := nte_cells HNN3.out
    have c4 := HQ3.out.box.cell (i := 4) rfl
    have hOW := HQ3.out.notes
    rw [HNN.out] at c4 hOW
    have HOW := Lib.hid hOW
    have hgnl := HNN3.out.lt
    have hgql := HQ3.out.box.lt
    have hbase := HQ3.out.mem.base
    have u4 := fun o => (HQ3.out.alloc o).box.cell (i := 4) rfl
    rw [HNN.out] at u4
    have HFN := Lib.hid HFR.out.2.2
    have hne1 : ¬ gn = gq := HFR.out.1.2.2.2
    have hne2 : ¬ gq = gn := fun e => hne1 e.symm
    rw [HNN.out] at HFN
    clear HNT HGN HFR hltq hltl hOW
    go_region_law (first
      | (refine step_app ?_ (.tmp 44) (.tmp 46) 29 119 ?_ B zN 13 120 Try.underlying29 Nte_info ?_ ?_ AN nn cn (rows q.ns) ?_ ?_ _ 1 1 (rows [n]) (by rfl) ?_ ?_ ?_ (rows_one [n]) (nn + 1) rfl (rows (q.ns ++ [n])) (rows_append _ _).symm ?_ ?_ ?_ ?_; rfl; rfl; rfl; decide; rfl; (exact own_below HOW.out (below1 _ _)); simp; rfl; (first | exact (Blk.drew (blk_new (by rfl))).rd | exact (blk_new (by rfl)).rd); (unfold maxLen; omega); omega; (focus (first | exact hbase | (simp; omega))); intro A3 c3 w3 hown3 hg3 hb3; have hQA := HQ3.out.below (below1 _ (.cells n.cells.toArray 119)); have hbx3 := blk_grown hQA.box hg3 (by intro e; have := own_block HOW.out gq e.symm; have := HQ3.out.ltq; omega); have hff := hbx3.frozen 4; have hfc : w3.cell? ⟨gq, 4, none⟩ = some (.slice AN nn cn) := (by have h := hbx3.cell (i := 4) rfl; rw [HNN.out] at h; exact h); have HG3 := Lib.hid hg3; have HOWN3 := Lib.hid hown3))
    all_goals
      go_end0
      refine ⟨rfl, ?_⟩
      have hQA := HQ3.out.below (below1 _ (.cells n.cells.toArray 119))
      have hg := HG3.out
      have ho := HOWN3.out
      have hb0 := HQ3.out.base
      have hnn := HNN.out
      subst hnn
      obtain ⟨hQ4, hB4⟩ := hQA.noted hg ho
      have hn := HNT'.out
      rw [← HX.out] at hn
      subst hn
      exact ⟨⟨_, _, _, _, _, _, hQ4⟩, (HBT3.out.mono HB0.out).trans (((below1 _ _).mono hb0).trans hB4)⟩

end Go.Proofs.Ytmllbailfbjoeaa
