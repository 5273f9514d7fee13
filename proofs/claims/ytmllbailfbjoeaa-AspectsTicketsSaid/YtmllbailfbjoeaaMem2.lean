/- The accesses of package mem, walked: do, Load, Swap, Add; New. -/
import Derived.Test.YtmllbailfbjoeaaMem1
import Derived.Laws.ResultCell
import Derived.Laws.Rows
namespace Go.Proofs.Ytmllbailfbjoeaa
open Go.RowKit Go.Sort

set_option maxHeartbeats 400000 in
theorem mmade_any (gw gm n k cc : Nat) (AC : Option Addr) (w : World) (hb : Blk w gm 132 (memL n gw AC k cc)) :
    Calls Try.prog 134 #[.pointer (some ⟨gm, 0, none⟩)] w (fun e w' => e = .returned (.bool true) ∧ Below w.heap.size w w') := by
  obtain ⟨c0, c1, c2, c3, _⟩ := mem_cells hb
  clear hb
  go_enter Try.func134, Try.ntmps134
  go_wp2
  go_ret
  exact ⟨rfl, Below.refl _ _⟩

theorem acc_box {w : World} {g : Nat} {a : Acc} (h : Blk w g 44 a.cells) :
    w.cell? ⟨g, 0, none⟩ = some (.int .i64 a.thread) ∧ w.cell? ⟨g, 1, none⟩ = some (.int .i64 a.kind) ∧ w.cell? ⟨g, 2, none⟩ = some (.int .i64 a.addr) ∧ w.cell? ⟨g, 3, none⟩ = some (.int .u64 a.want) ∧ w.cell? ⟨g, 4, none⟩ = some (.int .u64 a.old) ∧ w.cell? ⟨g, 5, none⟩ = some (.int .u64 a.now) ∧ w.cell? ⟨g, 6, none⟩ = some (.bool a.ok) :=
  ⟨h.cell rfl, h.cell rfl, h.cell rfl, h.cell rfl, h.cell rfl, h.cell rfl, h.cell rfl⟩

set_option maxHeartbeats 4000000 in
set_option maxRecDepth 100000 in
theorem do_any (gw gm B : Nat) (cb : Option Nat) (ws cs : List Int) (AC : Option Addr) (cc : Nat) (t k : Nat) (kind want now : Int) (ok : Bool) (f : FuncId) (caps : Array Value) (w : World) (ht : t < 64) (hk : k < ws.length) (_ : ws.length ≤ 1048576) (hM : MAt gw gm B cb ws w cs AC cc)
    (hf : Enters f) (hF : ∀ w', Below w.heap.size w w' → Calls Try.prog f (#[.int .u64 (ws.getD k 0)] ++ caps) w' (fun e w'' => e = .returned (.tuple #[.int .u64 now, .bool ok]) ∧ Below w'.heap.size w' w'')) :
    Calls Try.prog 129 #[.pointer (some ⟨gm, 0, none⟩), accV ⟨t, kind, k, want, 0, 0, false⟩, .func (.func f) #[] caps] w (fun e w' => e = .returned (.tuple #[accV ⟨t, kind, k, want, ws.getD k 0, now, ok⟩, .int .i64 0]) ∧ MPost gw gm B cb (ws.set k now) w w') := by
  have k1 : (0 : Int) ≤ (k : Int) := by omega
  have k2 : (k : Int) < (ws.length : Int) := by omega
  have HM := Lib.hid hM
  have HF := Lib.hid hF
  have HKL := Lib.hid hk
  have hmade := fun W hb => mmade_any gw gm ws.length cs.length cc AC W hb
  clear hM hF hk
  generalize hx : ws.getD k 0 = x at *
  have HX := Lib.hid hx
  clear hx
  generalize hn : ws.length = n at *
  have HN := Lib.hid hn
  clear hn
  generalize hnc : cs.length = nc at *
  have HNC := Lib.hid hnc
  clear hnc
  go_enter Try.func129, Try.ntmps129
  have HMA := Lib.hid ((HM.out.alloc (.cells (Acc.cells ⟨t, kind, k, want, 0, 0, false⟩).toArray 44)).alloc (.cells (Acc.cells Acc.none).toArray 44))
  go_upto_region 3 with (first | (refine (hmade _ (by have h := HMA.out.box; rw [HN.out, HNC.out] at h; exact h)).mono ?_; rintro e w1 ⟨rfl, hb1⟩))
  have hbb : Below w.heap.size w w1 := (((Below.refl _ _).alloc (Nat.le_refl _) _).alloc (by simp) _).trans (hb1.mono (by simp; omega))
  have HM1 := Lib.hid (HMA.out.below hb1)
  have HB4 := Lib.hid (((Blk.new w 44 (Acc.cells ⟨t, kind, k, want, 0, 0, false⟩)).alloc (.cells (Acc.cells Acc.none).toArray 44)).below hb1 (by simp; omega))
  have HB6 := Lib.hid (show Blk w1 (w.heap.size + 1) 44 (Acc.cells Acc.none) by
    have h := (Blk.new (w.alloc (.cells (Acc.cells ⟨t, kind, k, want, 0, 0, false⟩).toArray 44)) 44 (Acc.cells Acc.none)).below hb1 (by simp)
    simpa using h)
  have HK1 := Lib.hid (show Keep (memS gw gm cb) w w1 from .of_below hbb)
  have hgwl : gw < w.heap.size := HM.out.words.lt
  have hgml : gm < w.heap.size := HM.out.box.lt
  have HS := Lib.hid (show ∀ g, w.heap.size ≤ g → ¬ memS gw gm cb g from fun g hg h => by
    rcases h with h | h | h
    · omega
    · omega
    · have := HM.out.row.lt g (by rw [HM.out.cb]; exact h); omega)
  have HBB := Lib.hid hbb
  clear hb1 hbb HMA HM hmade
  obtain ⟨c0, _, _, c3, _⟩ := mem_cells HM1.out.box
  rw [HN.out] at c0
  obtain ⟨a0, a1, a2, a3, a4, a5, a6⟩ := acc_box HB4.out
  have f4 := HB4.out.frozen 4
  have hwd := HM1.out.words.cell (words_at (by rw [HN.out]; exact HKL.out))
  rw [HX.out] at hwd
  have hd : decide ((k : Int) < 0) = false := by simp
  have n1 : ¬ w.heap.size = gm := by omega
  have n2 : ¬ w.heap.size = gw := by omega
  go_quiet (fail)
  go_upto_region 5 with (fail)
  go_region
  have HM2 := Lib.hid (show MAt gw gm B cb ws ((w1.drewN (nq + 1)).setCell ⟨w.heap.size, 4, none⟩ (.int .u64 x)) cs AC cc from
    HM1.out.keep (S := fun g => w.heap.size = g) ((((Keep.refl _ w1).drewN (nq + 1))).set_ w.heap.size 4 _ (.inr rfl)) n2 n1 (fun g hg e => HS.out g (Nat.le_of_eq e) (.inr (.inr hg))))
  have HB4' := Lib.hid (show Blk ((w1.drewN (nq + 1)).setCell ⟨w.heap.size, 4, none⟩ (.int .u64 x)) w.heap.size 44 (Acc.cells ⟨t, kind, k, want, x, 0, false⟩) from Blk.set_ (w := w1.drewN (nq + 1)) HB4.out 4 (.int .u64 x))
  have HB6' := Lib.hid (show Blk ((w1.drewN (nq + 1)).setCell ⟨w.heap.size, 4, none⟩ (.int .u64 x)) (w.heap.size + 1) 44 (Acc.cells Acc.none) from
    ((((Keep.refl (fun g => g = w.heap.size) w1).drewN (nq + 1))).set_ w.heap.size 4 _ (.inr rfl)).blk HB6.out (by omega))
  have HK2 := Lib.hid (show Keep (memS gw gm cb) w ((w1.drewN (nq + 1)).setCell ⟨w.heap.size, 4, none⟩ (.int .u64 x)) from (HK1.out.drewN (nq + 1)).set_ _ 4 _ (.inl (Nat.le_refl _)))
  have HBW := Lib.hid (show Below w.heap.size w ((w1.drewN (nq + 1)).setCell ⟨w.heap.size, 4, none⟩ (.int .u64 x)) from
    (((Keep.of_below (S := fun _ => False) HBB.out).drewN (nq + 1)).set_ _ 4 _ (.inl (Nat.le_refl _))).below (fun _ h => h.elim) (Nat.le_refl _))
  clear HM1 HB4 HB6 HK1 a0 a1 a2 a3 a4 a5 a6 f4 c0 c3 hwd
  generalize (w1.drewN (nq + 1)).setCell ⟨w.heap.size, 4, none⟩ (.int .u64 x) = w2 at *
  obtain ⟨a0, a1, a2, a3, a4, a5, a6⟩ := acc_box HB4'.out
  have hrun := hf (#[.int .u64 x] ++ caps) w2
  have HCALL := Lib.hid (HF.out w2 HBW.out)
  clear HF
  go_upto_region 7 with (first | (refine HCALL.out.mono ?_; rintro e w3 ⟨rfl, hb3⟩; have hB43 := HB4'.out.below hb3 HB4'.out.lt; obtain ⟨_, _, _, _, _, b5, b6⟩ := acc_box hB43; have e5 := hB43.frozen 5; have e6 := hB43.frozen 6; clear hB43))
  have hl2 : w.heap.size < w2.heap.size := HB4'.out.lt
  have HB4 := Lib.hid (((HB4'.out.below hb3 hl2).set_ 5 (.int .u64 now)).set_ 6 (.bool ok))
  have hK3 : Keep (fun g => w.heap.size = g) w2 ((w3.setCell ⟨w.heap.size, 5, none⟩ (.int .u64 now)).setCell ⟨w.heap.size, 6, none⟩ (.bool ok)) := ((Keep.of_below hb3).set_ _ 5 _ (.inr rfl)).set_ _ 6 _ (.inr rfl)
  have HM3 := Lib.hid (HM2.out.keep hK3 n2 n1 (fun g hg e => HS.out g (Nat.le_of_eq e) (.inr (.inr hg))))
  have HB6 := Lib.hid (hK3.blk HB6'.out (by omega))
  have HK3 := Lib.hid (show Keep (memS gw gm cb) w ((w3.setCell ⟨w.heap.size, 5, none⟩ (.int .u64 now)).setCell ⟨w.heap.size, 6, none⟩ (.bool ok)) from ((HK2.out.trans (.of_below hb3)).set_ _ 5 _ (.inl (Nat.le_refl _))).set_ _ 6 _ (.inl (Nat.le_refl _)))
  clear hK3 HM2 HB4' HB6' HK2 HBW HCALL hrun a0 a1 a2 a3 a4 a5 a6 b5 b6 e5 e6 hb3
  generalize (w3.setCell ⟨w.heap.size, 5, none⟩ (.int .u64 now)).setCell ⟨w.heap.size, 6, none⟩ (.bool ok) = w4 at *
  have HB4a := Lib.hid (show Blk w4 w.heap.size 44 (Acc.cells ⟨t, kind, k, want, x, now, ok⟩) from HB4.out)
  clear HB4
  obtain ⟨a0, a1, a2, a3, a4, a5, a6⟩ := acc_box HB4a.out
  obtain ⟨c0, _, _, c3, _⟩ := mem_cells HM3.out.box
  rw [HN.out] at c0
  have hwd := HM3.out.words.cell (words_at (by rw [HN.out]; exact HKL.out))
  rw [HX.out] at hwd
  have hwf := HM3.out.words.frozen k
  go_region
  have hK5 : Keep (fun g => g = gw) w4 (w4.setCell ⟨gw, k, none⟩ (.int .u64 now)).drew := ((Keep.refl (fun g => g = gw) w4).set_ gw k _ (.inr rfl)).drew
  have HB4 := Lib.hid (hK5.blk HB4a.out n2)
  have HB6a := Lib.hid (hK5.blk HB6.out (by omega))
  have HM5 := Lib.hid (show MAt gw gm B cb (ws.set k now) (w4.setCell ⟨gw, k, none⟩ (.int .u64 now)).drew cs AC cc from by
    have h := HM3.out
    refine ⟨?_, ?_, hK5.own h.row (fun g hg e => ?_), h.few, h.cb, h.ne, h.ltw, h.ltm, Nat.le_trans h.base hK5.size⟩
    · have h1 := h.words.set_ k (.int .u64 now)
      rw [show (words ws).set k (.int .u64 now) = words (ws.set k now) by simp [words, List.map_set]] at h1
      exact h1.drew
    · rw [List.length_set]; exact hK5.blk h.box (Ne.symm h.ne)
    · have := own_block h.row g hg; have := h.ltw; omega)
  have HK5 := Lib.hid (show Keep (memS gw gm cb) w (w4.setCell ⟨gw, k, none⟩ (.int .u64 now)).drew from (HK3.out.set_ gw k _ (.inr (.inl rfl))).drew)
  clear hK5 HM3 HB4a HB6 HK3 a0 a1 a2 a3 a4 a5 a6 c0 c3 hwd hwf
  generalize (w4.setCell ⟨gw, k, none⟩ (.int .u64 now)).drew = w5 at *
  obtain ⟨a0, a1, a2, a3, a4, a5, a6⟩ := acc_box HB4.out
  have HCNT := Lib.hid (count_any gw gm B cb (ws.set k now) cs AC cc t w5 ht HM5.out)
  go_wp2_with (first | (refine HCNT.out.mono ?_; rintro e w6 ⟨rfl, hP⟩; obtain ⟨cb', cs', AC', cc', hM6, hK6, hC6⟩ := hP; have HM6 := Lib.hid hM6; have HK6 := Lib.hid hK6; have HC6 := Lib.hid hC6; obtain ⟨_, _, _, c3, _⟩ := mem_cells hM6.box; obtain ⟨b0, b1, b2, b3, b4, b5, b6⟩ := acc_box (hK6.blk HB4.out (HS.out _ (Nat.le_refl _))); have hB66 := hK6.blk HB6a.out (HS.out _ (by omega)); have HB66 := Lib.hid hB66; obtain ⟨d0, d1, d2, d3, d4, d5, d6⟩ := acc_box hB66; have e0 := hB66.frozen 0; have e1 := hB66.frozen 1; have e2 := hB66.frozen 2; have e3 := hB66.frozen 3; have e4 := hB66.frozen 4; have e5 := hB66.frozen 5; have e6 := hB66.frozen 6; clear hM6 hK6 hC6 hB66))
  have HB7 := Lib.hid (((((((HB66.out.set_ 0 (.int .i64 t)).set_ 1 (.int .i64 kind)).set_ 2 (.int .i64 k)).set_ 3 (.int .u64 want)).set_ 4 (.int .u64 x)).set_ 5 (.int .u64 now)).set_ 6 (.bool ok))
  have hK7 : Keep (fun g => g = w.heap.size + 1) w6 (((((((w6.setCell ⟨w.heap.size + 1, 0, none⟩ (.int .i64 t)).setCell ⟨w.heap.size + 1, 1, none⟩ (.int .i64 kind)).setCell ⟨w.heap.size + 1, 2, none⟩ (.int .i64 k)).setCell ⟨w.heap.size + 1, 3, none⟩ (.int .u64 want)).setCell ⟨w.heap.size + 1, 4, none⟩ (.int .u64 x)).setCell ⟨w.heap.size + 1, 5, none⟩ (.int .u64 now)).setCell ⟨w.heap.size + 1, 6, none⟩ (.bool ok)) :=
    (((((((Keep.refl (fun g => g = w.heap.size + 1) w6).set_ _ 0 _ (.inr rfl)).set_ _ 1 _ (.inr rfl)).set_ _ 2 _ (.inr rfl)).set_ _ 3 _ (.inr rfl)).set_ _ 4 _ (.inr rfl)).set_ _ 5 _ (.inr rfl)).set_ _ 6 _ (.inr rfl)
  have HK7 := Lib.hid hK7
  clear hK7 a0 a1 a2 a3 a4 a5 a6 b0 b1 b2 b3 b4 b5 b6 d0 d1 d2 d3 d4 d5 d6 e0 e1 e2 e3 e4 e5 e6 c3
  generalize (((((((w6.setCell ⟨w.heap.size + 1, 0, none⟩ (.int .i64 t)).setCell ⟨w.heap.size + 1, 1, none⟩ (.int .i64 kind)).setCell ⟨w.heap.size + 1, 2, none⟩ (.int .i64 k)).setCell ⟨w.heap.size + 1, 3, none⟩ (.int .u64 want)).setCell ⟨w.heap.size + 1, 4, none⟩ (.int .u64 x)).setCell ⟨w.heap.size + 1, 5, none⟩ (.int .u64 now)).setCell ⟨w.heap.size + 1, 6, none⟩ (.bool ok)) = w7 at *
  have hB7 : w7.heap[w.heap.size + 1]? = some (.cells #[.int .i64 t, .int .i64 kind, .int .i64 k, .int .u64 want, .int .u64 x, .int .u64 now, .bool ok] 44 (0, 0)) := HB7.out
  refine bodyPost_ret (v := .tuple #[accV ⟨t, kind, k, want, x, now, ok⟩, .int .i64 0]) ?_ rfl ⟨rfl, ?_⟩
  · rw [results_cell_tmp rfl]
    have hl := run_loadVar_row (P := Try.prog) w7 (w.heap.size + 1) 44 44 _ (0, 0) _ hB7 Try.underlying44 rfl (by kernel_rfl)
    have ha : (asAddr (.pointer (some ⟨w.heap.size + 1, 0, none⟩))).run Try.prog w7 = .ok ⟨w.heap.size + 1, 0, none⟩ w7 := by simp [asAddr, go_sem]
    show (((asAddr (.pointer (some ⟨w.heap.size + 1, 0, none⟩))).run Try.prog w7).andThen _) = _
    rw [ha]
    show (((loadVar 44 ⟨w.heap.size + 1, 0, none⟩).run Try.prog w7).andThen _) = _
    rw [hl]
    rfl
  · have hl6 : w.heap.size + 1 < w5.heap.size := HB6a.out.lt
    have hM7 := HM6.out.keep HK7.out (by omega) (by omega) (fun g hg e => by
      rcases HC6.out with h' | h'
      · exact HS.out g (by omega) (.inr (.inr (by rw [← h']; exact hg)))
      · have := h' g hg; omega)
    refine ⟨cb', cs', AC', cc', hM7, (HK5.out.trans HK6.out).trans' HK7.out (fun j hj e => absurd e (by omega)), ?_⟩
    rcases HC6.out with h' | h'
    · exact .inl h'
    · exact .inr (fun g hg => by have := h' g hg; omega)

end Go.Proofs.Ytmllbailfbjoeaa
