/- commute.Normal, walked. -/
import Derived.Test.YtmllbailfbjoeaaNormal
import Derived.Test.YtmllbailfbjoeaaClone
namespace Go.Proofs.Ytmllbailfbjoeaa
open Go.RowKit Go.Sort

theorem accs_snoc (l : List Acc) (x : Acc) : accs (l ++ [x]) = accs l ++ x.cells := by simp [accs]

theorem append_acc {ops : Array Oper} {rest : List Oper} {o : Oper} {a : Act} {Q : Exit → Act → World → Prop} {w : World} (s x : Operand) (hgd : o.guard = none)
    (ho : o.op = .call { callee := .builtin .append, args := #[s, x], argTypes := #[41, 41] })
    (base : Nat) (A : Option Addr) (n c : Nat) (l : List Acc) (z : Acc) (g c' : Nat) (hs : a.eval s = .slice A n c) (hown : w.ownsRow base 44 7 (.slice A n c) n (accs l))
    (hx : a.eval x = .slice (some ⟨g, 0, none⟩) 1 c') (hcell : ∀ j v, z.cells[j]? = some v → w.cell? ⟨g, j, none⟩ = some v) (hlen : n ≤ 2097152) (hbase : base ≤ w.heap.size)
    (h : ∀ A' c'' w', w'.ownsRow base 44 7 (.slice A' (n + 1) c'') (n + 1) (accs (l ++ [z])) → Below base w w' → w.grownBy w' (Value.ownBlock (.slice A n c)) → wpList Try.prog ops Q rest (a.put o.dst (.slice A' (n + 1) c'')) w') :
    wpList Try.prog ops Q (o :: rest) a w := by
  obtain ⟨i0, hi, hz0, hz1, hz2⟩ := info_parts CloneA_info
  refine wpList_append_own w hgd s x 41 ho base 44 i0 (accV Acc.none) 7 56 Try.underlying41 hi hz0 hz1 hz2 rfl (by decide) _ n (accs l) hs hown ⟨g, 0, none⟩ 1 c' z.cells hx rfl ?_ ?_ ?_ ?_ hbase ?_
  · intro j u hj
    have e1 : (Addr.add ⟨g, 0, none⟩ j) = ⟨g, j, none⟩ := by
      unfold Addr.add; split
      · simp_all
      · simp
    rw [e1]; exact hcell j u hj
  · intro u hu
    simp only [Acc.cells, List.mem_cons, List.not_mem_nil, or_false] at hu
    rcases hu with rfl | rfl | rfl | rfl | rfl | rfl | rfl <;> rfl
  · unfold maxLen; omega
  · omega
  · intro v' w' hown' hg _
    obtain ⟨g', cap', hv⟩ : ∃ g' cap', v' = .slice (some ⟨g', 0, none⟩) (n + 1) cap' := by
      rcases hown'.2 with ⟨_, h0⟩ | ⟨g', cap', _, hv, _⟩
      · omega
      · exact ⟨g', cap', hv⟩
    subst hv
    refine h _ _ w' ?_ (own_grown hown hbase hg) hg
    rw [accs_snoc]
    exact hown'

theorem new_acc (w : World) (y : Acc) : ∀ j v, y.cells[j]? = some v → (w.alloc (.cells #[.int .i64 y.thread, .int .i64 y.kind, .int .i64 y.addr, .int .u64 y.want, .int .u64 y.old, .int .u64 y.now, .bool y.ok] 44)).cell? ⟨w.heap.size, j, none⟩ = some v := fun j v hj => by
  rw [World.cell?_alloc_at (hn := rfl), ← hj]; simp [Acc.cells]

def madeA (n : Nat) : Array Value := madeCells (accV Acc.none).cells (n * 7)

/-- make([]api.Access, 0, n). -/
theorem make_accs (n : Nat) (hn : n ≤ 1048576) (w : World) :
    (Instr.makeSlice 41 (.int .i64 0) (.int .i64 (n : Int))).run Try.prog w = .ok (.slice (some ⟨w.heap.size, 0, none⟩) 0 n) (w.alloc (.cells (madeA n) 44)) := by
  obtain ⟨i, hi, hz, hs, hb⟩ := info_parts CloneA_info
  have hr := run_make (P := Try.prog) w 41 44 i (accV Acc.none) Try.underlying41 hi hz .i64 .i64 0 n (by omega) (by omega) (by rw [hb]; omega) (by omega)
  simp only [Int.toNat_natCast] at hr
  rw [hs] at hr
  exact hr

theorem own_made (w : World) (n : Nat) (hn : n ≤ 1048576) : (w.alloc (.cells (madeA n) 44)).ownsRow w.heap.size 44 7 (.slice (some ⟨w.heap.size, 0, none⟩) 0 n) 0 [] :=
  ⟨by simp, .inr ⟨w.heap.size, n, _, rfl, Nat.le_refl _, heap_alloc_new w _, by omega, by unfold maxLen; omega, size_madeCells _ _, by simp⟩⟩

def idxs (n : Nat) : List Int := (List.range n).map (fun i : Nat => (i : Int))
def fillS (n k : Nat) : List Int := idxs k ++ List.replicate (n - k) 0
theorem idxs_length (n : Nat) : (idxs n).length = n := by simp [idxs]
theorem fill_length (n k : Nat) (h : k ≤ n) : (fillS n k).length = n := by simp [fillS, idxs_length]; omega
theorem fill_set (n k : Nat) (h : k < n) : (fillS n k).set k (k : Int) = fillS n (k + 1) := by
  have hl := idxs_length k
  have e : n - k = (n - (k + 1)) + 1 := by omega
  unfold fillS
  rw [List.set_append_right _ _ (by omega), hl, Nat.sub_self, e, List.replicate_succ, List.set_cons_zero]
  simp [idxs, List.range_succ]
theorem fill_all (n : Nat) : fillS n n = idxs n := by simp [fillS]

theorem row_made (w : World) (n : Nat) (hn : n ≤ 1048576) : RowI w.heap.size w.heap.size n n (w.alloc (.cells (ints (List.replicate n 0)).toArray 3)) (fillS n 0) := by
  refine ⟨⟨by simp [fillS, idxs, ints], .inr ⟨w.heap.size, n, _, rfl, Nat.le_refl _, heap_alloc_new w _, Nat.le_refl _, by unfold maxLen; omega, by simp [ints], ?_⟩⟩, by simp [fillS, idxs]⟩
  simp [fillS, idxs, ints]

/-- The comparison orders. -/
theorem cmpS_less (ls : List Int) (l : List Acc) : Less (ltOf (cmpS ls l)) := by
  constructor
  · intro x y
    unfold ltOf cmpS cmp3
    grind
  · intro x y z
    unfold ltOf cmpS cmp3
    grind

/-- What Normal hands back: the accesses in an order of their places that does not fall. -/
def RetNormal (l : List Acc) (w : World) (e : Ending) (w' : World) : Prop :=
  ∃ os : List Int, os.Perm (idxs l.length) ∧ Rises (ltOf (cmpS (lvs l l.length) l)) 0 l.length os ∧ RetAccs (os.map fun i => l.getD i.toNat Acc.none) w e w'

theorem idxs_ok (n : Nat) : ∀ x ∈ idxs n, 0 ≤ x ∧ x < (n : Int) := by
  intro x hx
  simp only [idxs, List.mem_map, List.mem_range] at hx
  obtain ⟨i, hi, rfl⟩ := hx
  omega

set_option maxHeartbeats 8000000 in
set_option maxRecDepth 100000 in
theorem Normal_any (A : Option Addr) (c : Nat) (l : List Acc) (w : World) (hl : l.length ≤ 1048576) (hlc : l.length ≤ c) (hR : Rd w A (accs l)) :
    Calls Try.prog 50 #[.slice A l.length c] w (RetNormal l w) := by
  have HR := Lib.hid hR
  have HLV := Lib.hid (fun W h => Levels_any A c l W hl hlc h)
  have HLL := Lib.hid (lvs_length l l.length)
  clear hR
  generalize hn : l.length = n at *
  have HN := Lib.hid hn
  clear hn
  have hmk := make_ints n hl
  go_enter Try.func50, Try.ntmps50
  go_wp2_with fail
  refine (HLV.out _ (HR.out.alloc _)).mono ?_
  rintro er w1 ⟨V, cv, rfl, hv, hb1⟩
  rw [HLL.out]
  have HV := Lib.hid hv
  have hx1 : w1.cell? ⟨w.heap.size, 0, none⟩ = some (.slice A n c) := by rw [hb1.cell (p := ⟨w.heap.size, 0, none⟩) (by simp)]; simp
  have hlt1 : w.heap.size < w1.heap.size := by have := hb1.size; simp at this; omega
  have HB1 := Lib.hid (((Below.refl w.heap.size w).alloc (Nat.le_refl _) _).trans (hb1.mono (by simp)))
  clear hv hb1
  go_wp2
  have hx2 : ((w1.alloc (.cells #[.slice V n cv] 22)).alloc (.cells (ints (List.replicate n 0)).toArray 3)).cell? ⟨w1.heap.size, 0, none⟩ = some (.slice V n cv) := by
    rw [World.cell?_alloc_lt _ _ _ (by simp)]; simp
  have hx3 : ((w1.alloc (.cells #[.slice V n cv] 22)).alloc (.cells (ints (List.replicate n 0)).toArray 3)).cell? ⟨w.heap.size, 0, none⟩ = some (.slice A n c) := by
    rw [World.cell?_alloc_lt _ _ _ (by simp; omega), World.cell?_alloc_lt _ _ _ hlt1]; exact hx1
  have hrow := row_made (w1.alloc (.cells #[.slice V n cv] 22)) n hl
  rw [World.size_alloc] at hrow
  have hb12 := ((Below.refl w1.heap.size w1).alloc (Nat.le_refl _) (.cells #[.slice V n cv] 22)).alloc (by simp) (.cells (ints (List.replicate n 0)).toArray 3)
  have hb2 := (HB1.out.alloc HB1.out.size (.cells #[.slice V n cv] 22)).alloc (Nat.le_trans HB1.out.size (by simp)) (.cells (ints (List.replicate n 0)).toArray 3)
  have hsz : w1.heap.size + 1 < ((w1.alloc (.cells #[.slice V n cv] 22)).alloc (.cells (ints (List.replicate n 0)).toArray 3)).heap.size := by simp
  clear HB1 hmk hx1
  generalize (w1.alloc (.cells #[.slice V n cv] 22)).alloc (.cells (ints (List.replicate n 0)).toArray 3) = w2 at *
  have HB12 := Lib.hid hb12
  clear hb12
  generalize hg1 : w1.heap.size = gl at hrow hx2 hsz hlt1 ⊢
  have hgg : gl < gl + 1 := by omega
  generalize hg2 : gl + 1 = g at *
  have hg3 : g ≤ gl + 1 := by omega
  have HG1 := Lib.hid hg1
  clear hg1 hg2
  have HX2 := Lib.hid hx2
  have HX3 := Lib.hid hx3
  have HRW := Lib.hid hrow
  have HB2 := Lib.hid hb2
  clear hx2 hx3 hrow hb2
  go_loopw [16] (fun i wr => ∃ k : Nat, k ≤ n ∧ i = .int .i64 k ∧ RowI g g n n wr (fillS n k) ∧ Only g w2 wr) (fun i _ => n - (intOf i).toNat)
  case atStart => exact ⟨0, Nat.zero_le _, rfl, HRW.out, Only.refl _ _⟩
  case round =>
    obtain ⟨k, hk, rfl, hr, ho⟩ := hrel
    have HRK := Lib.hid hr
    have HOK := Lib.hid ho
    clear hr ho
    by_cases hlt : k < n
    · have x1 := HRK.out.cell hlt
      have f1 := HRK.out.frozen hlt
      generalize (fillS n k).getD k 0 = z at x1
      go_wp2
      refine ⟨⟨k + 1, by omega, by go_num, ?_, HOK.out.set_ k _⟩, by simp [intOf]; omega⟩
      rw [← fill_set n k hlt]
      exact HRK.out.set_ hlt k
    · obtain rfl : k = n := by omega
      have hcm : Cmps g wr 92 #[.pointer (some ⟨gl, 0, none⟩), .pointer (some ⟨w.heap.size, 0, none⟩)] (cmpS (lvs l k) l) (fun x => 0 ≤ x ∧ x < (k : Int)) := by
        intro x y hx hy w' hw'
        have ho := HOK.out.trans hw'
        refine Normal1_any gl w.heap.size V A k cv c (lvs l k) l x y w' hl HLL.out HN.out hx hy ?_ ?_ ?_ ?_
        · rw [ho.cell (p := ⟨gl, 0, none⟩) (by show gl < _; omega) (by show gl ≠ _; omega)]; exact HX2.out
        · rw [ho.cell (p := ⟨w.heap.size, 0, none⟩) (by show w.heap.size < _; omega) (by show w.heap.size ≠ _; omega)]; exact HX3.out
        · exact HV.out.below (HB12.out.trans (ho.below (by rw [HG1.out]; omega) (by rw [HG1.out]; omega)))
        · exact HR.out.below (HB2.out.trans (ho.below (by omega) (by omega)))
      go_wp2_with fail
      refine (SortStable_any g g k k 92 #[.pointer (some ⟨gl, 0, none⟩), .pointer (some ⟨w.heap.size, 0, none⟩)] (cmpS (lvs l k) l) (fun x => 0 ≤ x ∧ x < (k : Int)) (idxs k) _ hl (by rw [← fill_all]; exact HRK.out) Normal1_enters (cmpS_less _ _) hcm (idxs_ok k)).mono ?_
      rintro er w3 ⟨rfl, os, hr3, hm3, hs3, ho3⟩
      have ho := HOK.out.trans ho3
      have hmk := make_accs k hl
      have hc3 : w3.cell? ⟨w.heap.size, 0, none⟩ = some (.slice A k c) := by
        rw [ho.cell (p := ⟨w.heap.size, 0, none⟩) (by show w.heap.size < _; omega) (by show w.heap.size ≠ _; omega)]; exact HX3.out
      have HB3 := Lib.hid (HB2.out.trans (ho.below (by omega : w.heap.size ≤ g) (by omega)))
      have HR3 := Lib.hid hr3
      have HP3 := Lib.hid hm3.perm
      have HS3 := Lib.hid hs3
      have hgs : w.heap.size < w3.heap.size := by have := ho.size; omega
      have hgs3 : g < w3.heap.size := by have := ho.size; omega
      clear hr3 hm3 hs3 ho3 ho hcm HRK HOK
      go_wp2
      have hown := own_made w3 k hl
      have hcc : (w3.alloc (.cells (madeA k) 44)).cell? ⟨w.heap.size, 0, none⟩ = some (.slice A k c) := by
        rw [World.cell?_alloc_lt _ _ _ hgs]; exact hc3
      replace HR3 := Lib.hid (HR3.out.below ((Below.refl _ _).alloc (Nat.le_refl _) (.cells (madeA k) 44)))
      replace HB3 := Lib.hid (HB3.out.alloc HB3.out.size (.cells (madeA k) 44))
      have hgs2 : w3.heap.size < (w3.alloc (.cells (madeA k) 44)).heap.size := by simp
      clear hmk hc3
      generalize w3.alloc (.cells (madeA k) 44) = w4 at *
      generalize w3.heap.size = g4 at *
      have HOW := Lib.hid hown
      have HCC := Lib.hid hcc
      clear hown hcc
      go_loopw [6, 32] (fun v i wr => ∃ (j : Nat) (V' : Option Addr) (c' : Nat), j ≤ k ∧ i = .int .i64 j ∧ v = .slice V' j c' ∧ wr.ownsRow g4 44 7 (.slice V' j c') j (accs ((os.take j).map fun i => l.getD i.toNat Acc.none)) ∧ Below g4 w4 wr) (fun _ i _ => k - (intOf i).toNat)
      case atStart => exact ⟨0, _, _, Nat.zero_le _, rfl, rfl, HOW.out, Below.refl _ _⟩
      case round =>
        obtain ⟨j, V', c', hj, rfl, rfl, hown, hbw⟩ := hrel
        have HOJ := Lib.hid hown
        have HBJ := Lib.hid hbw
        clear hown hbw
        by_cases hjk : j < k
        · have hbo : g < g4 := by omega
          have hr4 := HR3.out.cell hjk
          have x1 : wr.cell? ⟨g, j, none⟩ = some (.int .i64 (os.getD j 0)) := by rw [HBJ.out.cell (p := ⟨g, j, none⟩) hbo]; exact hr4
          have x2 : wr.cell? ⟨w.heap.size, 0, none⟩ = some (.slice A k c) := by rw [HBJ.out.cell (p := ⟨w.heap.size, 0, none⟩) hgs]; exact HCC.out
          have hosl : os.length = k := HR3.out.2
          have hmem : 0 ≤ os.getD j 0 ∧ os.getD j 0 < (k : Int) := idxs_ok k _ (HP3.out.mem_iff.1 (by simp [List.getD, hosl, hjk]))
          have HTS := Lib.hid (show (os.take (j + 1)).map (fun i => l.getD i.toNat Acc.none) = (os.take j).map (fun i => l.getD i.toNat Acc.none) ++ [l.getD (os.getD j 0).toNat Acc.none] by
            rw [List.take_succ_eq_append_getElem (by omega), List.map_append]; simp [List.getD, hosl, hjk])
          generalize os.getD j 0 = z at *
          obtain ⟨hz1, hz2⟩ := hmem
          obtain ⟨z, rfl⟩ := Int.eq_ofNat_of_zero_le hz1
          rw [Int.toNat_natCast] at HTS
          have hzl : z < l.length := by rw [HN.out]; omega
          obtain ⟨b, o, rfl, hbl, hc⟩ := HR.out.at_ (by rw [accs_length]; omega)
          have hbw := HB3.out.trans (HBJ.out.mono (by omega))
          have hcr : ∀ k v, (accs l)[k]? = some v → wr.cell? ⟨b, o + k, none⟩ = some v := fun k v hk => by
            rw [hbw.cell (p := ⟨b, o + k, none⟩) hbl]; exact hc k v hk
          generalize hy : l.getD z Acc.none = y at *
          obtain ⟨c0, c1, c2, c3, c4, c5, c6⟩ := acc_cells hcr hzl hy
          clear hcr hbw hc hr4 hosl hy hzl
          have hbsz : g4 ≤ wr.heap.size := Nat.le_trans (by omega) HBJ.out.size
          go_wp2_with (at_builtin; refine append_acc (.tmp 36) (.tmp 41) rfl rfl g4 V' j c' ((os.take j).map fun i => l.getD i.toNat Acc.none) y wr.heap.size 1 rfl (own_below HOJ.out ((Below.refl _ _).alloc (Nat.le_refl _) _)) rfl (new_acc _ _) (by omega) (Nat.le_trans hbsz (by simp)) ?_; intro V2 cv2 w5 hown5 hb5 _)
          refine ⟨⟨j + 1, V2, cv2, by omega, by go_num, rfl, ?_, ?_⟩, by simp [intOf]; omega⟩
          · rw [HTS.out]; exact hown5
          · exact (HBJ.out.alloc hbsz _).trans hb5
        · go_wp2
          go_ret
          obtain rfl : j = k := by omega
          have hosl : os.length = j := HR3.out.2
          have hown := HOJ.out
          rw [List.take_of_length_le (by omega)] at hown
          refine ⟨os, ?_, ?_, ?_⟩
          · rw [HN.out]; exact HP3.out
          · rw [HN.out]; exact HS3.out
          · refine ⟨V', c', ?_, own_rd hown, by rw [List.length_map, hosl]; exact own_cap hown, HB3.out.trans (HBJ.out.mono (by omega))⟩
            rw [List.length_map, hosl]; rfl

end Go.Proofs.Ytmllbailfbjoeaa
