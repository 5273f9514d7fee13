/- ledger.book.once, walked where the ledger's example comes to. (printed by gen_once.py) -/
import Derived.Test.YtedipingocmmdaaGreatOncP
import Derived.Laws.Tables
import Derived.Deep.MidRow
import Derived.Deep.WholeRow
namespace Go.Proofs.YtedipingocmmdaaGreat
open Go.RowKit Go.Maps

/-- A block's first cells. -/
def At (w : World) (b : Nat) (cs : List Value) : Prop := b < w.heap.size ∧ ∀ k v, cs[k]? = some v → w.cell? ⟨b, k, none⟩ = some v
theorem At.below {w w' : World} {b : Nat} {cs : List Value} (h : At w b cs) (hb : Below w.heap.size w w') : At w' b cs :=
  ⟨Nat.lt_of_lt_of_le h.1 hb.size, fun k v hk => by rw [hb.cell (p := ⟨b, k, none⟩) h.1]; exact h.2 k v hk⟩
theorem At.grown {w w' : World} {b : Nat} {cs : List Value} {row : Option Nat} (h : At w b cs) (hg : w.grownBy w' row) (hne : some b ≠ row) : At w' b cs :=
  ⟨Nat.lt_of_lt_of_le h.1 hg.size, fun k v hk => by rw [grown_cell hg (p := ⟨b, k, none⟩) h.1 hne]; exact h.2 k v hk⟩
theorem At.new (w : World) (t : TypeId) (cs : List Value) : At (w.alloc (.cells cs.toArray t)) w.heap.size cs := ⟨(Blk.new w t cs).lt, fun _ _ hk => (Blk.new w t cs).cell hk⟩
theorem At.alloc {w : World} {b : Nat} {cs : List Value} (h : At w b cs) (o : Obj) : At (w.alloc o) b cs := h.grown (World.grownBy_alloc w o none) (by simp)
theorem wpList_store_box {P : Program} {ops : Array Oper} {rest : List Oper} {o : Oper} {a : Act} {Q : Exit → Act → World → Prop} (hgd : o.guard = none) (ty : TypeId) (x y : Operand) (ho : o.op = .store ty x y)
    (w : World) (cells old : Array Value) (t : TypeId) (hx : a.eval x = .pointer (some ⟨w.heap.size, 0, none⟩)) (hy : a.eval y = .agg cells) (hi : (P.info? ty).map (·.size) = some cells.size)
    (hold : old.size = cells.size) (h1 : cells.all (·.oneCell') = true) (h : wpList P ops Q rest (a.put o.dst undef) (w.alloc (.cells cells t))) : wpList P ops Q (o :: rest) a (w.alloc (.cells old t)) := by
  refine wpList_store_row hgd ty x y ho w.heap.size cells hx hy t old (heap_alloc_new w _) hi hold h1 ?_
  rw [World.setRow_alloc_new]; exact h
def bookC (pm : Value) (tb tc : Nat) (RA : Option Addr) (rn rc : Nat) : List Value :=
  [.int .i64 1, .int .i64 2, .int .i64 0, .int .i64 2, .int .i64 3, .int .i64 2, .int .i64 1, .int .i64 99, .int .i64 99, .int .i64 0, .slice none 0 0, pm, .slice (some ⟨tb, 0, none⟩) 2 tc, .int .i64 0, .int .i64 1, .slice RA rn rc]
def tasksC (f0 c0 f1 c1 : Nat) : List Value := [.int .i64 0, .int .i64 0, .int .i64 0, .int .i64 0, .int .i64 0, .bool false, .slice none 0 0, .bool false, .int .i64 0, .int .i64 0, .int .i64 0, .int .i64 0, .int .i64 0, .bool false, .int .i64 0, .int .i64 0, .slice none 0 0, .slice none 0 0, .int .u64 0, .slice none 0 0, .slice none 0 0, .slice none 0 0, .int .i64 0, .int .i64 0, .slice (some ⟨f0, 0, none⟩) 3 c0, .slice none 0 0, .int .i64 0, .int .i64 0, .int .i64 0, .int .i64 0, .int .i64 0, .bool false, .bool false, .bool false, .int .i64 6, .int .i64 1, .int .i64 9, .int .i64 0, .int .i64 0, .bool false, .slice none 0 0, .bool false, .int .i64 1, .int .i64 0, .int .i64 0, .int .i64 0, .int .i64 0, .bool false, .int .i64 0, .int .i64 1, .slice none 0 0, .slice none 0 0, .int .u64 0, .slice none 0 0, .slice none 0 0, .slice none 0 0, .int .i64 4, .int .i64 1, .slice (some ⟨f1, 0, none⟩) 2 c1, .slice none 0 0, .int .i64 0, .int .i64 0, .int .i64 0, .int .i64 0, .int .i64 0, .bool false, .bool false, .bool false]
theorem tasks_at0 {f0 c0 f1 c1 i : Nat} {v : Value} (h : ([.int .i64 0, .int .i64 0, .int .i64 0, .int .i64 0, .int .i64 0, .bool false, .slice none 0 0, .bool false, .int .i64 0, .int .i64 0, .int .i64 0, .int .i64 0, .int .i64 0, .bool false, .int .i64 0, .int .i64 0, .slice none 0 0, .slice none 0 0, .int .u64 0, .slice none 0 0, .slice none 0 0, .slice none 0 0, .int .i64 0, .int .i64 0, .slice (some ⟨f0, 0, none⟩) 3 c0, .slice none 0 0, .int .i64 0, .int .i64 0, .int .i64 0, .int .i64 0, .int .i64 0, .bool false, .bool false, .bool false] : List Value)[i]? = some v) : (tasksC f0 c0 f1 c1)[0 + i]? = some v := by
  rw [Nat.zero_add]
  have : tasksC f0 c0 f1 c1 = [.int .i64 0, .int .i64 0, .int .i64 0, .int .i64 0, .int .i64 0, .bool false, .slice none 0 0, .bool false, .int .i64 0, .int .i64 0, .int .i64 0, .int .i64 0, .int .i64 0, .bool false, .int .i64 0, .int .i64 0, .slice none 0 0, .slice none 0 0, .int .u64 0, .slice none 0 0, .slice none 0 0, .slice none 0 0, .int .i64 0, .int .i64 0, .slice (some ⟨f0, 0, none⟩) 3 c0, .slice none 0 0, .int .i64 0, .int .i64 0, .int .i64 0, .int .i64 0, .int .i64 0, .bool false, .bool false, .bool false] ++ [.int .i64 6, .int .i64 1, .int .i64 9, .int .i64 0, .int .i64 0, .bool false, .slice none 0 0, .bool false, .int .i64 1, .int .i64 0, .int .i64 0, .int .i64 0, .int .i64 0, .bool false, .int .i64 0, .int .i64 1, .slice none 0 0, .slice none 0 0, .int .u64 0, .slice none 0 0, .slice none 0 0, .slice none 0 0, .int .i64 4, .int .i64 1, .slice (some ⟨f1, 0, none⟩) 2 c1, .slice none 0 0, .int .i64 0, .int .i64 0, .int .i64 0, .int .i64 0, .int .i64 0, .bool false, .bool false, .bool false] := rfl
  rw [this]
  exact (List.getElem?_append_left (List.getElem?_eq_some_iff.1 h).1).trans h
theorem tasks_at1 {f0 c0 f1 c1 i : Nat} {v : Value} (h : ([.int .i64 6, .int .i64 1, .int .i64 9, .int .i64 0, .int .i64 0, .bool false, .slice none 0 0, .bool false, .int .i64 1, .int .i64 0, .int .i64 0, .int .i64 0, .int .i64 0, .bool false, .int .i64 0, .int .i64 1, .slice none 0 0, .slice none 0 0, .int .u64 0, .slice none 0 0, .slice none 0 0, .slice none 0 0, .int .i64 4, .int .i64 1, .slice (some ⟨f1, 0, none⟩) 2 c1, .slice none 0 0, .int .i64 0, .int .i64 0, .int .i64 0, .int .i64 0, .int .i64 0, .bool false, .bool false, .bool false] : List Value)[i]? = some v) : (tasksC f0 c0 f1 c1)[34 + i]? = some v := by
  have : tasksC f0 c0 f1 c1 = [.int .i64 0, .int .i64 0, .int .i64 0, .int .i64 0, .int .i64 0, .bool false, .slice none 0 0, .bool false, .int .i64 0, .int .i64 0, .int .i64 0, .int .i64 0, .int .i64 0, .bool false, .int .i64 0, .int .i64 0, .slice none 0 0, .slice none 0 0, .int .u64 0, .slice none 0 0, .slice none 0 0, .slice none 0 0, .int .i64 0, .int .i64 0, .slice (some ⟨f0, 0, none⟩) 3 c0, .slice none 0 0, .int .i64 0, .int .i64 0, .int .i64 0, .int .i64 0, .int .i64 0, .bool false, .bool false, .bool false] ++ [.int .i64 6, .int .i64 1, .int .i64 9, .int .i64 0, .int .i64 0, .bool false, .slice none 0 0, .bool false, .int .i64 1, .int .i64 0, .int .i64 0, .int .i64 0, .int .i64 0, .bool false, .int .i64 0, .int .i64 1, .slice none 0 0, .slice none 0 0, .int .u64 0, .slice none 0 0, .slice none 0 0, .slice none 0 0, .int .i64 4, .int .i64 1, .slice (some ⟨f1, 0, none⟩) 2 c1, .slice none 0 0, .int .i64 0, .int .i64 0, .int .i64 0, .int .i64 0, .int .i64 0, .bool false, .bool false, .bool false] := rfl
  rw [this, List.getElem?_append_right (by simp)]
  simpa using h
theorem cfg_at {pm : Value} {tb tc : Nat} {RA : Option Addr} {rn rc i : Nat} {v : Value} (h : ([.int .i64 1, .int .i64 2, .int .i64 0, .int .i64 2, .int .i64 3, .int .i64 2, .int .i64 1, .int .i64 99, .int .i64 99, .int .i64 0, .slice none 0 0] : List Value)[i]? = some v) : (bookC pm tb tc RA rn rc)[i]? = some v := by
  have : bookC pm tb tc RA rn rc = [.int .i64 1, .int .i64 2, .int .i64 0, .int .i64 2, .int .i64 3, .int .i64 2, .int .i64 1, .int .i64 99, .int .i64 99, .int .i64 0, .slice none 0 0] ++ [pm, .slice (some ⟨tb, 0, none⟩) 2 tc, .int .i64 0, .int .i64 1, .slice RA rn rc] := rfl
  rw [this]
  exact (List.getElem?_append_left (List.getElem?_eq_some_iff.1 h).1).trans h

set_option maxHeartbeats 8000000 in
set_option maxRecDepth 100000 in
theorem Once_any (w : World) (b tb f0 f1 tc c0 c1 rn rc : Nat) (pm : Value) (RA : Option Addr) (hB : At w b (bookC pm tb tc RA rn rc)) (hT : At w tb (tasksC f0 c0 f1 c1))
    (h0 : At w f0 [.int .i64 1, .int .i64 0, .int .i64 2, .int .i64 0, .int .i64 3, .int .i64 0]) (h1 : At w f1 [.int .i64 5, .int .i64 0, .int .i64 6, .int .i64 0])
    (hN : ∀ W : World, Calls Tryz.prog 126 #[.agg #[.int .i64 1, .int .i64 2, .int .i64 0, .int .i64 2, .int .i64 3, .int .i64 2, .int .i64 1, .int .i64 99, .int .i64 99, .int .i64 0, .slice none 0 0]] W fun e W' => e = .returned (.int .i64 7) ∧ Below W.heap.size W W') :
    Calls Tryz.prog 81 #[.pointer (some ⟨b, 0, none⟩)] w fun e w' => e = .returned (.bool true) ∧ Below w.heap.size w w' := by
  have HB := Lib.hid hB
  have HT := Lib.hid hT
  have H0 := Lib.hid h0
  have H1 := Lib.hid h1
  have HN := Lib.hid hN
  have HBA := Lib.hid (hB.alloc (.map #[] 0))
  have r0 := HBA.out.2 13 _ rfl
  have hbl := HBA.out.1
  have HO0 := Lib.hid (World.ownsMap_made (H := Unit) w Tryz.prog 3 (plainElem Tryz.prog 3))
  have HBW := Lib.hid ((Below.refl w.heap.size w).alloc (Nat.le_refl _) (.map #[] 0))
  have HK1 := Lib.hid (keyOf_int_mk Tryz.underlying3 (show (Lit.int .i64 1).wf = true by decide))
  have HK2 := Lib.hid (keyOf_int_mk Tryz.underlying3 (show (Lit.int .i64 2).wf = true by decide))
  have HK3 := Lib.hid (keyOf_int_mk Tryz.underlying3 (show (Lit.int .i64 3).wf = true by decide))
  have HK4 := Lib.hid (keyOf_int_mk Tryz.underlying3 (show (Lit.int .i64 4).wf = true by decide))
  have HK5 := Lib.hid (keyOf_int_mk Tryz.underlying3 (show (Lit.int .i64 5).wf = true by decide))
  have HK6 := Lib.hid (keyOf_int_mk Tryz.underlying3 (show (Lit.int .i64 6).wf = true by decide))
  have HK0 := Lib.hid (keyOf_int_mk Tryz.underlying3 (show (Lit.int .i64 0).wf = true by decide))
  obtain ⟨w1, hrun, hown1, hgr1⟩ := HO0.out.update (val := .int .i64 1) int_law Tryz.underlying185 (by unfold maxLen; omega) HK0.out (plainElem_int Tryz.underlying3 (by decide))
  have HO1 := Lib.hid (show seenM w1 w.heap.size 1 from hown1)
  have HB1 := Lib.hid (map_turned hgr1 HBW.out (Nat.le_refl _))
  have HBK := Lib.hid (HB.out.below HB1.out)
  have r1 := HBK.out.2 12 _ rfl
  have hbl1 := HBK.out.1
  clear hB hT h0 h1 hN hown1 hgr1
  have hmm := @run_makeMap Tryz.prog
  go_enter Tryz.func81, Tryz.ntmps81
  go_wp2
  clear r0 hbl r1 hbl1 hrun hmm
  go_loopw [4, 25] (fun sp i wr => sp = .int .i64 0 ∧ Below w.heap.size w wr ∧ ((i = .int .i64 0 ∧ seenM wr w.heap.size 1) ∨ (i = .int .i64 1 ∧ seenM wr w.heap.size 4) ∨ (i = .int .i64 2 ∧ seenM wr w.heap.size 7))) (fun _ i _ => 2 - (intOf i).toNat)
  case atStart => exact ⟨rfl, HB1.out, .inl ⟨rfl, HO1.out⟩⟩
  case round =>
    obtain ⟨rfl, hb, hk⟩ := hrel
    have HBr := Lib.hid hb
    clear hb HO1 HB1
    rcases hk with ⟨rfl, ho⟩ | ⟨rfl, ho⟩ | ⟨rfl, ho⟩ <;> have HOr := Lib.hid ho <;> clear ho
    · have HTK := Lib.hid (HT.out.below HBr.out)
      obtain ⟨TC, HTC⟩ : ∃ TC : List Value, RowKit.Hid (TC = [.int .i64 0, .int .i64 0, .int .i64 0, .int .i64 0, .int .i64 0, .bool false, .slice none 0 0, .bool false, .int .i64 0, .int .i64 0, .int .i64 0, .int .i64 0, .int .i64 0, .bool false, .int .i64 0, .int .i64 0, .slice none 0 0, .slice none 0 0, .int .u64 0, .slice none 0 0, .slice none 0 0, .slice none 0 0, .int .i64 0, .int .i64 0, .slice (some ⟨f0, 0, none⟩) 3 c0, .slice none 0 0, .int .i64 0, .int .i64 0, .int .i64 0, .int .i64 0, .int .i64 0, .bool false, .bool false, .bool false]) := ⟨_, Lib.hid rfl⟩
      have HRG := Lib.hid (show wr.rangeAt tb 0 TC from fun i v hv => by rw [HTC.out] at hv; exact HTK.out.2 (0 + i) v (tasks_at0 hv))
      have HI := Lib.hid (show (Tryz.prog.info? 63).map (·.size) = some TC.length by rw [HTC.out]; kernel_rfl)
      have HI2 := Lib.hid (show (Tryz.prog.info? 63).map (·.size) = some TC.toArray.size by rw [HTC.out]; kernel_rfl)
      have HSZ := Lib.hid (show 34 = TC.toArray.size by rw [HTC.out]; rfl)
      have HONE := Lib.hid (show TC.toArray.all (·.oneCell') = true by rw [HTC.out]; kernel_rfl)
      have HOB := Lib.hid (HOr.out.alloc (.cells TC.toArray 63))
      have HBB := Lib.hid (HBr.out.alloc HBr.out.size (.cells TC.toArray 63))
      have HX := Lib.hid (At.new wr 63 TC)
      have hgne : ¬ wr.heap.size = w.heap.size := by have := HOr.out.lt; omega
      have htl := HTK.out.1
      clear HTK
      go_upto_region 6 with (first | (refine wpList_load_mid rfl 63 (.tmp 27) rfl tb 0 rfl TC _ HRG.out Tryz.underlying63 rfl HI.out ?_) | (refine wpList_store_box rfl 63 (.tmp 6) (.tmp 28) rfl wr TC.toArray _ 63 rfl rfl HI2.out HSZ.out HONE.out ?_))
      clear HRG HI HI2 HSZ HONE htl
      generalize wr.alloc (.cells TC.toArray 63) = wo at *
      generalize wr.heap.size = gb at *
      have b22 := HX.out.2 22 (.int .i64 0) (by rw [HTC.out]; rfl)
      have b23 := HX.out.2 23 (.int .i64 0) (by rw [HTC.out]; rfl)
      have b24 := HX.out.2 24 (.slice (some ⟨f0, 0, none⟩) 3 c0) (by rw [HTC.out]; rfl)
      have b25 := HX.out.2 25 (.slice none 0 0) (by rw [HTC.out]; rfl)
      have b26 := HX.out.2 26 (.int .i64 0) (by rw [HTC.out]; rfl)
      have b31 := HX.out.2 31 (.bool false) (by rw [HTC.out]; rfl)
      have bl := HX.out.1
      go_upto_region 9 with (fail)
      go_wp2
      clear b22 b23 b24 b25 b26 b31 bl
      go_loopw [50] (fun i w2 => Below w.heap.size w w2 ∧ At w2 gb TC ∧ ((i = .int .i64 0 ∧ seenM w2 w.heap.size 1) ∨ (i = .int .i64 1 ∧ seenM w2 w.heap.size 2) ∨ (i = .int .i64 2 ∧ seenM w2 w.heap.size 3) ∨ (i = .int .i64 3 ∧ seenM w2 w.heap.size 4))) (fun i _ => 3 - (intOf i).toNat)
      case atStart => exact ⟨HBB.out, HX.out, .inl ⟨rfl, HOB.out⟩⟩
      case round =>
        obtain ⟨hb2, hx2, hk2⟩ := hrel
        have HB2 := Lib.hid hb2
        have HX2 := Lib.hid hx2
        clear hb2 hx2 HOB HBB HX
        rcases hk2 with ⟨rfl, ho2⟩ | ⟨rfl, ho2⟩ | ⟨rfl, ho2⟩ | ⟨rfl, ho2⟩ <;> have HO2 := Lib.hid ho2 <;> clear ho2
        · have HF := Lib.hid (H0.out.below HB2.out)
          have z0 := HF.out.2 0 _ rfl
          have z1 := HF.out.2 1 _ rfl
          have zl := HF.out.1
          have HO3 := Lib.hid (HO2.out.alloc (.cells #[.int .i64 1, .int .i64 0] 164))
          have HB3 := Lib.hid (HB2.out.alloc HB2.out.size (.cells #[.int .i64 1, .int .i64 0] 164))
          have HX3 := Lib.hid (HX2.out.alloc (.cells #[.int .i64 1, .int .i64 0] 164))
          go_wp2_with (first | (at_lookup; refine wpList_lookup_own_int _ rfl _ _ 185 rfl 3 3 .i64 int_law Tryz.underlying185 Tryz.underlying3 (int_zero _) w.heap.size 1 (Dm 1) rfl HO3.out _ _ rfl HK1.out ?_; intro cc hat hwc; obtain rfl := dm_at (j := 1) (by omega) cc hat; clear hat hwc) | (at_mapUpdate; refine wpList_mapUpdate_own _ rfl _ _ _ 185 rfl 3 3 int_law Tryz.underlying185 _ w.heap.size 1 (Dm 1) rfl HO3.out (by unfold maxLen; omega) _ _ _ rfl rfl HK1.out _ [] (plainElem_int Tryz.underlying3 (by decide)) ?_; intro w9 ho_w9 hg_w9))
          go_roundw
          case rel => exact ⟨map_turned hg_w9 HB3.out (Nat.le_refl _), HX3.out.grown hg_w9 (by intro e; injection e with e; exact hgne e), .inr (.inl ⟨rfl, by show w9.ownsMap Tryz.prog 3 (plainElem Tryz.prog 3) w.heap.size (1 + 1) (Dm (1 + 1)); rw [← dm_put (j := 1) (by omega)]; exact ho_w9⟩)⟩
          case measure => decide
        · have HF := Lib.hid (H0.out.below HB2.out)
          have z0 := HF.out.2 2 _ rfl
          have z1 := HF.out.2 3 _ rfl
          have zl := HF.out.1
          have HO3 := Lib.hid (HO2.out.alloc (.cells #[.int .i64 2, .int .i64 0] 164))
          have HB3 := Lib.hid (HB2.out.alloc HB2.out.size (.cells #[.int .i64 2, .int .i64 0] 164))
          have HX3 := Lib.hid (HX2.out.alloc (.cells #[.int .i64 2, .int .i64 0] 164))
          go_wp2_with (first | (at_lookup; refine wpList_lookup_own_int _ rfl _ _ 185 rfl 3 3 .i64 int_law Tryz.underlying185 Tryz.underlying3 (int_zero _) w.heap.size 2 (Dm 2) rfl HO3.out _ _ rfl HK2.out ?_; intro cc hat hwc; obtain rfl := dm_at (j := 2) (by omega) cc hat; clear hat hwc) | (at_mapUpdate; refine wpList_mapUpdate_own _ rfl _ _ _ 185 rfl 3 3 int_law Tryz.underlying185 _ w.heap.size 2 (Dm 2) rfl HO3.out (by unfold maxLen; omega) _ _ _ rfl rfl HK2.out _ [] (plainElem_int Tryz.underlying3 (by decide)) ?_; intro w9 ho_w9 hg_w9))
          go_roundw
          case rel => exact ⟨map_turned hg_w9 HB3.out (Nat.le_refl _), HX3.out.grown hg_w9 (by intro e; injection e with e; exact hgne e), .inr (.inr (.inl ⟨rfl, by show w9.ownsMap Tryz.prog 3 (plainElem Tryz.prog 3) w.heap.size (2 + 1) (Dm (2 + 1)); rw [← dm_put (j := 2) (by omega)]; exact ho_w9⟩))⟩
          case measure => decide
        · have HF := Lib.hid (H0.out.below HB2.out)
          have z0 := HF.out.2 4 _ rfl
          have z1 := HF.out.2 5 _ rfl
          have zl := HF.out.1
          have HO3 := Lib.hid (HO2.out.alloc (.cells #[.int .i64 3, .int .i64 0] 164))
          have HB3 := Lib.hid (HB2.out.alloc HB2.out.size (.cells #[.int .i64 3, .int .i64 0] 164))
          have HX3 := Lib.hid (HX2.out.alloc (.cells #[.int .i64 3, .int .i64 0] 164))
          go_wp2_with (first | (at_lookup; refine wpList_lookup_own_int _ rfl _ _ 185 rfl 3 3 .i64 int_law Tryz.underlying185 Tryz.underlying3 (int_zero _) w.heap.size 3 (Dm 3) rfl HO3.out _ _ rfl HK3.out ?_; intro cc hat hwc; obtain rfl := dm_at (j := 3) (by omega) cc hat; clear hat hwc) | (at_mapUpdate; refine wpList_mapUpdate_own _ rfl _ _ _ 185 rfl 3 3 int_law Tryz.underlying185 _ w.heap.size 3 (Dm 3) rfl HO3.out (by unfold maxLen; omega) _ _ _ rfl rfl HK3.out _ [] (plainElem_int Tryz.underlying3 (by decide)) ?_; intro w9 ho_w9 hg_w9))
          go_roundw
          case rel => exact ⟨map_turned hg_w9 HB3.out (Nat.le_refl _), HX3.out.grown hg_w9 (by intro e; injection e with e; exact hgne e), .inr (.inr (.inr (⟨rfl, by show w9.ownsMap Tryz.prog 3 (plainElem Tryz.prog 3) w.heap.size (3 + 1) (Dm (3 + 1)); rw [← dm_put (j := 3) (by omega)]; exact ho_w9⟩)))⟩
          case measure => decide
        · have d22 := HX2.out.2 22 (.int .i64 0) (by rw [HTC.out]; rfl)
          have d25 := HX2.out.2 25 (.slice none 0 0) (by rw [HTC.out]; rfl)
          have d31 := HX2.out.2 31 (.bool false) (by rw [HTC.out]; rfl)
          have dl := HX2.out.1
          go_wp2
          clear d22 d25 d31 dl
          go_loopw [64] (fun i w3 => i = .int .i64 0 ∧ Below w.heap.size w w3 ∧ At w3 gb TC ∧ seenM w3 w.heap.size 4) (fun _ _ => 0)
          case atStart => exact ⟨rfl, HB2.out, HX2.out, HO2.out⟩
          case round =>
            obtain ⟨rfl, hb4, hx4, ho4⟩ := hrel
            have HB4 := Lib.hid hb4
            have HX4 := Lib.hid hx4
            have HO4 := Lib.hid ho4
            clear hb4 hx4 ho4 HB2 HX2 HO2
            have e25 := HX4.out.2 25 (.slice none 0 0) (by rw [HTC.out]; rfl)
            have e31 := HX4.out.2 31 (.bool false) (by rw [HTC.out]; rfl)
            have el := HX4.out.1
            go_wp2
            go_roundw
            case rel => exact ⟨rfl, HB4.out, .inr (.inl ⟨rfl, HO4.out⟩)⟩
            case measure => decide
    · have HTK := Lib.hid (HT.out.below HBr.out)
      obtain ⟨TC, HTC⟩ : ∃ TC : List Value, RowKit.Hid (TC = [.int .i64 6, .int .i64 1, .int .i64 9, .int .i64 0, .int .i64 0, .bool false, .slice none 0 0, .bool false, .int .i64 1, .int .i64 0, .int .i64 0, .int .i64 0, .int .i64 0, .bool false, .int .i64 0, .int .i64 1, .slice none 0 0, .slice none 0 0, .int .u64 0, .slice none 0 0, .slice none 0 0, .slice none 0 0, .int .i64 4, .int .i64 1, .slice (some ⟨f1, 0, none⟩) 2 c1, .slice none 0 0, .int .i64 0, .int .i64 0, .int .i64 0, .int .i64 0, .int .i64 0, .bool false, .bool false, .bool false]) := ⟨_, Lib.hid rfl⟩
      have HRG := Lib.hid (show wr.rangeAt tb 34 TC from fun i v hv => by rw [HTC.out] at hv; exact HTK.out.2 (34 + i) v (tasks_at1 hv))
      have HI := Lib.hid (show (Tryz.prog.info? 63).map (·.size) = some TC.length by rw [HTC.out]; kernel_rfl)
      have HI2 := Lib.hid (show (Tryz.prog.info? 63).map (·.size) = some TC.toArray.size by rw [HTC.out]; kernel_rfl)
      have HSZ := Lib.hid (show 34 = TC.toArray.size by rw [HTC.out]; rfl)
      have HONE := Lib.hid (show TC.toArray.all (·.oneCell') = true by rw [HTC.out]; kernel_rfl)
      have HOB := Lib.hid (HOr.out.alloc (.cells TC.toArray 63))
      have HBB := Lib.hid (HBr.out.alloc HBr.out.size (.cells TC.toArray 63))
      have HX := Lib.hid (At.new wr 63 TC)
      have hgne : ¬ wr.heap.size = w.heap.size := by have := HOr.out.lt; omega
      have htl := HTK.out.1
      clear HTK
      go_upto_region 6 with (first | (refine wpList_load_mid rfl 63 (.tmp 27) rfl tb 34 rfl TC _ HRG.out Tryz.underlying63 rfl HI.out ?_) | (refine wpList_store_box rfl 63 (.tmp 6) (.tmp 28) rfl wr TC.toArray _ 63 rfl rfl HI2.out HSZ.out HONE.out ?_))
      clear HRG HI HI2 HSZ HONE htl
      generalize wr.alloc (.cells TC.toArray 63) = wo at *
      generalize wr.heap.size = gb at *
      have b22 := HX.out.2 22 (.int .i64 4) (by rw [HTC.out]; rfl)
      have b23 := HX.out.2 23 (.int .i64 1) (by rw [HTC.out]; rfl)
      have b24 := HX.out.2 24 (.slice (some ⟨f1, 0, none⟩) 2 c1) (by rw [HTC.out]; rfl)
      have b25 := HX.out.2 25 (.slice none 0 0) (by rw [HTC.out]; rfl)
      have b26 := HX.out.2 26 (.int .i64 0) (by rw [HTC.out]; rfl)
      have b31 := HX.out.2 31 (.bool false) (by rw [HTC.out]; rfl)
      have bl := HX.out.1
      go_upto_region 9 with (first | (at_lookup; refine wpList_lookup_own_int _ rfl _ _ 185 rfl 3 3 .i64 int_law Tryz.underlying185 Tryz.underlying3 (int_zero _) w.heap.size 4 (Dm 4) rfl HOB.out _ _ rfl HK4.out ?_; intro cc hat hwc; obtain rfl := dm_at (j := 4) (by omega) cc hat; clear hat hwc) | (at_mapUpdate; refine wpList_mapUpdate_own _ rfl _ _ _ 185 rfl 3 3 int_law Tryz.underlying185 _ w.heap.size 4 (Dm 4) rfl HOB.out (by unfold maxLen; omega) _ _ _ rfl rfl HK4.out _ [] (plainElem_int Tryz.underlying3 (by decide)) ?_; intro w8 ho_w8 hg_w8))
      have HO8 := Lib.hid (show seenM w8 w.heap.size 5 from by have h := ho_w8; rw [show (.int .i64 4 : Lit) = .int .i64 ((4 : Nat) : Int) from rfl, dm_put (j := 4) (by omega)] at h; exact h)
      have HB8 := Lib.hid (map_turned hg_w8 HBB.out (Nat.le_refl _))
      have HX8 := Lib.hid (HX.out.grown hg_w8 (by intro e; injection e with e; exact hgne e))
      clear ho_w8 hg_w8 HOB HBB HX
      clear b22 b23 b24 b25 b26 b31 bl
      have b22 := HX8.out.2 22 (.int .i64 4) (by rw [HTC.out]; rfl)
      have b23 := HX8.out.2 23 (.int .i64 1) (by rw [HTC.out]; rfl)
      have b24 := HX8.out.2 24 (.slice (some ⟨f1, 0, none⟩) 2 c1) (by rw [HTC.out]; rfl)
      have b25 := HX8.out.2 25 (.slice none 0 0) (by rw [HTC.out]; rfl)
      have b26 := HX8.out.2 26 (.int .i64 0) (by rw [HTC.out]; rfl)
      have b31 := HX8.out.2 31 (.bool false) (by rw [HTC.out]; rfl)
      have bl := HX8.out.1
      go_wp2
      clear b22 b23 b24 b25 b26 b31 bl
      go_loopw [50] (fun i w2 => Below w.heap.size w w2 ∧ At w2 gb TC ∧ ((i = .int .i64 0 ∧ seenM w2 w.heap.size 5) ∨ (i = .int .i64 1 ∧ seenM w2 w.heap.size 6) ∨ (i = .int .i64 2 ∧ seenM w2 w.heap.size 7))) (fun i _ => 2 - (intOf i).toNat)
      case atStart => exact ⟨HB8.out, HX8.out, .inl ⟨rfl, HO8.out⟩⟩
      case round =>
        obtain ⟨hb2, hx2, hk2⟩ := hrel
        have HB2 := Lib.hid hb2
        have HX2 := Lib.hid hx2
        clear hb2 hx2 HO8 HB8 HX8
        rcases hk2 with ⟨rfl, ho2⟩ | ⟨rfl, ho2⟩ | ⟨rfl, ho2⟩ <;> have HO2 := Lib.hid ho2 <;> clear ho2
        · have HF := Lib.hid (H1.out.below HB2.out)
          have z0 := HF.out.2 0 _ rfl
          have z1 := HF.out.2 1 _ rfl
          have zl := HF.out.1
          have HO3 := Lib.hid (HO2.out.alloc (.cells #[.int .i64 5, .int .i64 0] 164))
          have HB3 := Lib.hid (HB2.out.alloc HB2.out.size (.cells #[.int .i64 5, .int .i64 0] 164))
          have HX3 := Lib.hid (HX2.out.alloc (.cells #[.int .i64 5, .int .i64 0] 164))
          go_wp2_with (first | (at_lookup; refine wpList_lookup_own_int _ rfl _ _ 185 rfl 3 3 .i64 int_law Tryz.underlying185 Tryz.underlying3 (int_zero _) w.heap.size 5 (Dm 5) rfl HO3.out _ _ rfl HK5.out ?_; intro cc hat hwc; obtain rfl := dm_at (j := 5) (by omega) cc hat; clear hat hwc) | (at_mapUpdate; refine wpList_mapUpdate_own _ rfl _ _ _ 185 rfl 3 3 int_law Tryz.underlying185 _ w.heap.size 5 (Dm 5) rfl HO3.out (by unfold maxLen; omega) _ _ _ rfl rfl HK5.out _ [] (plainElem_int Tryz.underlying3 (by decide)) ?_; intro w9 ho_w9 hg_w9))
          go_roundw
          case rel => exact ⟨map_turned hg_w9 HB3.out (Nat.le_refl _), HX3.out.grown hg_w9 (by intro e; injection e with e; exact hgne e), .inr (.inl ⟨rfl, by show w9.ownsMap Tryz.prog 3 (plainElem Tryz.prog 3) w.heap.size (5 + 1) (Dm (5 + 1)); rw [← dm_put (j := 5) (by omega)]; exact ho_w9⟩)⟩
          case measure => decide
        · have HF := Lib.hid (H1.out.below HB2.out)
          have z0 := HF.out.2 2 _ rfl
          have z1 := HF.out.2 3 _ rfl
          have zl := HF.out.1
          have HO3 := Lib.hid (HO2.out.alloc (.cells #[.int .i64 6, .int .i64 0] 164))
          have HB3 := Lib.hid (HB2.out.alloc HB2.out.size (.cells #[.int .i64 6, .int .i64 0] 164))
          have HX3 := Lib.hid (HX2.out.alloc (.cells #[.int .i64 6, .int .i64 0] 164))
          go_wp2_with (first | (at_lookup; refine wpList_lookup_own_int _ rfl _ _ 185 rfl 3 3 .i64 int_law Tryz.underlying185 Tryz.underlying3 (int_zero _) w.heap.size 6 (Dm 6) rfl HO3.out _ _ rfl HK6.out ?_; intro cc hat hwc; obtain rfl := dm_at (j := 6) (by omega) cc hat; clear hat hwc) | (at_mapUpdate; refine wpList_mapUpdate_own _ rfl _ _ _ 185 rfl 3 3 int_law Tryz.underlying185 _ w.heap.size 6 (Dm 6) rfl HO3.out (by unfold maxLen; omega) _ _ _ rfl rfl HK6.out _ [] (plainElem_int Tryz.underlying3 (by decide)) ?_; intro w9 ho_w9 hg_w9))
          go_roundw
          case rel => exact ⟨map_turned hg_w9 HB3.out (Nat.le_refl _), HX3.out.grown hg_w9 (by intro e; injection e with e; exact hgne e), .inr (.inr (⟨rfl, by show w9.ownsMap Tryz.prog 3 (plainElem Tryz.prog 3) w.heap.size (6 + 1) (Dm (6 + 1)); rw [← dm_put (j := 6) (by omega)]; exact ho_w9⟩))⟩
          case measure => decide
        · have d22 := HX2.out.2 22 (.int .i64 4) (by rw [HTC.out]; rfl)
          have d25 := HX2.out.2 25 (.slice none 0 0) (by rw [HTC.out]; rfl)
          have d31 := HX2.out.2 31 (.bool false) (by rw [HTC.out]; rfl)
          have dl := HX2.out.1
          go_wp2
          clear d22 d25 d31 dl
          go_loopw [64] (fun i w3 => i = .int .i64 0 ∧ Below w.heap.size w w3 ∧ At w3 gb TC ∧ seenM w3 w.heap.size 7) (fun _ _ => 0)
          case atStart => exact ⟨rfl, HB2.out, HX2.out, HO2.out⟩
          case round =>
            obtain ⟨rfl, hb4, hx4, ho4⟩ := hrel
            have HB4 := Lib.hid hb4
            have HX4 := Lib.hid hx4
            have HO4 := Lib.hid ho4
            clear hb4 hx4 ho4 HB2 HX2 HO2
            have e25 := HX4.out.2 25 (.slice none 0 0) (by rw [HTC.out]; rfl)
            have e31 := HX4.out.2 31 (.bool false) (by rw [HTC.out]; rfl)
            have el := HX4.out.1
            go_wp2
            go_roundw
            case rel => exact ⟨rfl, HB4.out, .inr (.inr ⟨rfl, HO4.out⟩)⟩
            case measure => decide
    · have HGI := Lib.hid HBr.out.size
      obtain ⟨CF, HCF⟩ : ∃ CF : List Value, RowKit.Hid (CF = [.int .i64 1, .int .i64 2, .int .i64 0, .int .i64 2, .int .i64 3, .int .i64 2, .int .i64 1, .int .i64 99, .int .i64 99, .int .i64 0, .slice none 0 0]) := ⟨_, Lib.hid rfl⟩
      have HCI := Lib.hid (show (Tryz.prog.info? 29).map (·.size) = some CF.length by rw [HCF.out]; kernel_rfl)
      have HNC := Lib.hid (show ∀ W : World, Calls Tryz.prog 126 #[.agg CF.toArray] W fun e W' => e = .returned (.int .i64 7) ∧ Below W.heap.size W W' by rw [HCF.out]; exact HN.out)
      go_wp2_with (first | (at_range; refine wpList_range_own _ rfl _ 185 rfl 3 3 int_law Tryz.underlying185 _ w.heap.size 7 (Dm 7) rfl HOr.out ?_; intro w5 hrg5 hg5 hs5))
      go_frame
      have HB5 := Lib.hid (HBr.out.trans ((Below.refl wr.heap.size wr).grown hg5 (Nat.le_refl _) (fun k hk => by cases hk) |>.mono HBr.out.size))
      generalize wr.heap.size = gi at *
      go_loopw [] (fun wr6 => ∃ (left : Lit → Bool) (cnt : Nat), wr6.ranges Tryz.prog 3 (plainElem Tryz.prog 3) w.heap.size gi 7 (Dm 7) left cnt ∧ Below w.heap.size w wr6) (fun wr6 => wr6.rangeLeft w.heap.size gi)
      case atStart => exact ⟨_, _, hrg5, HB5.out⟩
      case round =>
        obtain ⟨left, cnt, hrg, hb6⟩ := hrel
        have HRG := Lib.hid hrg
        have HB6 := Lib.hid hb6
        have HBK6 := Lib.hid (HB.out.below hb6)
        clear hrg hb6 hrg5 hg5 hs5 HB5
        have x0 := HBK6.out.2 0 _ rfl
        have x1 := HBK6.out.2 1 _ rfl
        have x2 := HBK6.out.2 2 _ rfl
        have x3 := HBK6.out.2 3 _ rfl
        have x4 := HBK6.out.2 4 _ rfl
        have x5 := HBK6.out.2 5 _ rfl
        have x6 := HBK6.out.2 6 _ rfl
        have x7 := HBK6.out.2 7 _ rfl
        have x8 := HBK6.out.2 8 _ rfl
        have x9 := HBK6.out.2 9 _ rfl
        have x10 := HBK6.out.2 10 _ rfl
        have xl := HBK6.out.1
        go_wp2_with (first | (at_next; refine wpList_next_ranges_ii _ rfl _ rfl 3 3 .i64 .i64 int_law Tryz.underlying3 Tryz.underlying3 w.heap.size gi 7 (Dm 7) left cnt rfl HRG.out ?_ ?_))
        · intro hc0 hl0
          clear hc0 hl0
          have HOW := Lib.hid (show seenM wr w.heap.size 7 from HRG.out.owns)
          have HSB := Lib.hid (show ∀ W, Below wr.heap.size wr W → (W.rangeAt b 0 CF ∧ seenM W w.heap.size 7) from fun W hW => ⟨fun i v hv => by
              rw [Nat.zero_add]
              exact (HBK6.out.below hW).2 i v (by rw [HCF.out] at hv; exact cfg_at hv), HOW.out.kept (row := none) ⟨hW.os, hW.tape, hW.output, hW.size, fun k hk _ => hW.block k hk⟩ (by simp)⟩)
          go_upto_region 27 with (fail)
          refine wp_region_held_drew (S := fun w' => w'.rangeAt b 0 CF ∧ seenM w' w.heap.size 7) (by kernel_rfl) (HSB.out _ (Below.drewN' (Below.refl wr.heap.size wr) 1)) (fun hHeld => ?_)
          refine wpAnyH_take (i := 0) (v := .map (some w.heap.size)) rfl (by kernel_rfl) (by kernel_rfl) (by kernel_rfl) (fun _ _ _ h => h) (Or.inl ⟨by rfl, fun w hSw => by go_simp⟩) hHeld ?_
          try simp only [Act.put, List.getElem_toArray, List.getElem_cons_succ, List.getElem_cons_zero, List.setIfInBounds_toArray, List.set_cons_zero, List.set_cons_succ]
          refine wpAnyH_take (i := 1) (v := .int .i64 7) rfl (by kernel_rfl) (by kernel_rfl) (by kernel_rfl) (fun _ _ _ h => h) (Or.inl ⟨by rfl, fun w hSw => by have hl := World.ownsMap.len hSw.2 Tryz.underlying185 3; rw [dm_size] at hl; go_simp⟩) hHeld ?_
          try simp only [Act.put, List.getElem_toArray, List.getElem_cons_succ, List.getElem_cons_zero, List.setIfInBounds_toArray, List.set_cons_zero, List.set_cons_succ]
          refine wpAnyH_take (i := 2) (v := .int .i64 0) rfl (by kernel_rfl) (by kernel_rfl) (by kernel_rfl) (fun _ _ _ h => h) (Or.inl ⟨by rfl, fun w hSw => by go_simp⟩) hHeld ?_
          try simp only [Act.put, List.getElem_toArray, List.getElem_cons_succ, List.getElem_cons_zero, List.setIfInBounds_toArray, List.set_cons_zero, List.set_cons_succ]
          refine wpAnyH_take (i := 3) (v := .int .i64 7) rfl (by kernel_rfl) (by kernel_rfl) (by kernel_rfl) (fun _ _ _ h => h) (Or.inl ⟨by rfl, fun w hSw => by go_simp; rfl⟩) hHeld ?_
          try simp only [Act.put, List.getElem_toArray, List.getElem_cons_succ, List.getElem_cons_zero, List.setIfInBounds_toArray, List.set_cons_zero, List.set_cons_succ]
          refine wpAnyH_take (i := 4) (v := .pointer (some ⟨b, 0, none⟩)) rfl (by kernel_rfl) (by kernel_rfl) (by kernel_rfl) (fun _ _ _ h => h) (Or.inl ⟨by rfl, fun w hSw => by go_simp⟩) hHeld ?_
          try simp only [Act.put, List.getElem_toArray, List.getElem_cons_succ, List.getElem_cons_zero, List.setIfInBounds_toArray, List.set_cons_zero, List.set_cons_succ]
          refine wpAnyH_take (i := 5) (v := .pointer (some ⟨b, 0, none⟩)) rfl (by kernel_rfl) (by kernel_rfl) (by kernel_rfl) (fun _ _ _ h => h) (Or.inl ⟨by rfl, fun w hSw => by go_simp⟩) hHeld ?_
          try simp only [Act.put, List.getElem_toArray, List.getElem_cons_succ, List.getElem_cons_zero, List.setIfInBounds_toArray, List.set_cons_zero, List.set_cons_succ]
          refine wpAnyH_take (i := 6) (v := .pointer (some ⟨b, 0, none⟩)) rfl (by kernel_rfl) (by kernel_rfl) (by kernel_rfl) (fun _ _ _ h => h) (Or.inl ⟨by rfl, fun w hSw => by go_simp⟩) hHeld ?_
          try simp only [Act.put, List.getElem_toArray, List.getElem_cons_succ, List.getElem_cons_zero, List.setIfInBounds_toArray, List.set_cons_zero, List.set_cons_succ]
          refine wpAnyH_take (i := 7) (v := .agg CF.toArray) rfl (by kernel_rfl) (by kernel_rfl) (by kernel_rfl) (fun _ _ _ h => h) (yieldsIf_load_mid (by rfl) _ _ rfl _ _ rfl CF _ (fun _ h => h.1) Tryz.underlying29 rfl HCI.out) hHeld ?_
          try simp only [Act.put, List.getElem_toArray, List.getElem_cons_succ, List.getElem_cons_zero, List.setIfInBounds_toArray, List.set_cons_zero, List.set_cons_succ]
          refine wpAnyH_ready (rs := [8]) (by kernel_rfl) (by simp) ?_
          refine AllReadyH.cons rfl (fun K hK => ?_) AllReadyH.nil
          clear hHeld
          rw [if_pos (by rfl)]
          simp only [List.getElem_toArray, List.getElem_cons_succ, List.getElem_cons_zero]
          go_simp
          refine (HNC.out wr.drew).mono ?_
          rintro er v1 ⟨rfl, hb1⟩
          have hB1 : Below wr.heap.size wr v1 := ⟨hb1.os, hb1.tape, hb1.output, hb1.size, hb1.block⟩
          go_wp2_with fail
          refine hK.out _ _ (HSB.out _ hB1) (fun hHeld => ?_)
          clear hK K
          try simp only [Act.put, List.getElem_toArray, List.getElem_cons_succ, List.getElem_cons_zero, List.setIfInBounds_toArray, List.set_cons_zero, List.set_cons_succ]
          refine wpAnyH_take (i := 9) (v := .bool true) rfl (by kernel_rfl) (by kernel_rfl) (by kernel_rfl) (fun _ _ _ h => h) (Or.inl ⟨by rfl, fun w hSw => by go_simp⟩) hHeld ?_
          try simp only [Act.put, List.getElem_toArray, List.getElem_cons_succ, List.getElem_cons_zero, List.setIfInBounds_toArray, List.set_cons_zero, List.set_cons_succ]
          refine wpAnyH_take (i := 10) (v := .bool true) rfl (by kernel_rfl) (by kernel_rfl) (by kernel_rfl) (fun _ _ _ h => h) (Or.inl ⟨by rfl, fun w hSw => by go_simp⟩) hHeld ?_
          try simp only [Act.put, List.getElem_toArray, List.getElem_cons_succ, List.getElem_cons_zero, List.setIfInBounds_toArray, List.set_cons_zero, List.set_cons_succ]
          clear hHeld
          refine wpAnyH_done (by kernel_rfl) ?_ _
          go_wp2
          go_ret
          exact ⟨rfl, HB6.out.trans (hB1.mono HB6.out.size)⟩
        · intro x c w7 cnt7 hwx hwc hlx hat hrg7 hlt7 hg7 hs7 hen
          obtain ⟨rfl, q1, q2⟩ := dm_all hat
          have HRG7 := Lib.hid hrg7
          have HLT7 := Lib.hid hlt7
          have HB7 := Lib.hid (HB6.out.trans ((Below.refl _ _).grown hg7 HB6.out.size (fun k hk => by injection hk with hk; have := HGI.out; omega)))
          have HBK7 := Lib.hid (HB.out.below HB7.out)
          clear hwx hwc hlx hat hrg7 hlt7 hg7 hs7
          clear x0 x1 x2 x3 x4 x5 x6 x7 x8 x9 x10 xl
          have v0 := HBK7.out.2 0 _ rfl
          have v1 := HBK7.out.2 1 _ rfl
          have v2 := HBK7.out.2 2 _ rfl
          have v3 := HBK7.out.2 3 _ rfl
          have v4 := HBK7.out.2 4 _ rfl
          have v5 := HBK7.out.2 5 _ rfl
          have v6 := HBK7.out.2 6 _ rfl
          have v7 := HBK7.out.2 7 _ rfl
          have v8 := HBK7.out.2 8 _ rfl
          have v9 := HBK7.out.2 9 _ rfl
          have v10 := HBK7.out.2 10 _ rfl
          have vl := HBK7.out.1
          have t1 : decide (x < 0) = false := by simp; omega
          have t2 : decide (x ≥ 7) = false := by simp; omega
          have t3 : decide (7 ≤ x) = false := by simp; omega
          go_wp2_with (first | (go_at_call 126; refine (HN.out _).mono ?_; rintro e w8 ⟨rfl, hb8⟩))
          go_roundw
          case rel => exact ⟨_, _, HRG7.out.kept (row := none) ⟨hb8.os, hb8.tape, hb8.output, hb8.size, fun k hk _ => hb8.block k hk⟩ (by simp) (by simp), HB7.out.trans (hb8.mono HB7.out.size)⟩
          case measure =>
            rw [(HRG7.out.kept (row := none) ⟨hb8.os, hb8.tape, hb8.output, hb8.size, fun k hk _ => hb8.block k hk⟩ (by simp) (by simp)).left_eq, HRG.out.left_eq]
            exact HLT7.out
end Go.Proofs.YtedipingocmmdaaGreat

