/- A select, out of its words: script.selects, walked. -/
import Derived.Test.YtalkllfgedacoaaGreatDoorD15
namespace Go.Proofs.YtalkllfgedacoaaGreatDoor
open Go.RowKit Go.Sort

/-- What stands while a select's words are read: the result's block, the call's, its cases. -/
structure SelIn (w0 : World) (g : Nat) (q : Reqr) (cs : List Cse) (wr : World) : Prop where
  res : Blk wr w0.heap.size 24 (Reqr.cells ⟨0, 0, 0, false, none, 0, 0⟩)
  blk : Blk wr g 24 q.cells
  own : wr.ownsRow w0.heap.size 110 3 (.slice q.A q.n q.c) q.n (rows cs)
  bel : Below w0.heap.size w0 wr
  low : w0.heap.size < g
theorem SelIn.draw {w0 wr w' : World} {g : Nat} {q : Reqr} {cs : List Cse} (h : SelIn w0 g q cs wr) (hb : Below wr.heap.size wr w') : SelIn w0 g q cs w' :=
  ⟨h.res.below hb h.res.lt, h.blk.below hb h.blk.lt, own_below h.own hb, h.bel.trans (hb.mono h.bel.size), h.low⟩

theorem SelIn.dfl {w0 wr : World} {g : Nat} {q : Reqr} {cs : List Cse} (h : SelIn w0 g q cs wr) : SelIn w0 g { q with dflt := true } cs (wr.setCell ⟨g, 3, none⟩ (.bool true)) := by
  have hS : Keep (fun k => k = g) wr (wr.setCell ⟨g, 3, none⟩ (.bool true)) := (Keep.refl _ _).set_ _ _ _ (.inr rfl)
  have hlow := h.low
  exact ⟨hS.blk h.res (fun e => by omega), h.blk.set_ 3 _, hS.own h.own (fun k hk e => own_blk_ne h.own h.blk (by decide) (by rw [hk, e])), h.bel.trans (hS.below (fun k e => by omega) h.bel.size), hlow⟩
theorem rd_tail_at {w : World} {L o : Nat} {l : List ByteArray} (h : Rd w (some ⟨L, o, none⟩) (rows l)) (hne : l ≠ []) : Rd w (some ⟨L, o + 1, none⟩) (rows l.tail) := by
  obtain ⟨b, o', e, hb, hc⟩ := strs_cell h hne
  injection e with e
  injection e with e1 e2
  subst e1 e2
  refine .inr ⟨L, o + 1, rfl, hb, fun k v hk => ?_⟩
  rw [strs_rows, List.getElem?_map, List.getElem?_tail] at hk
  cases hx : l[k + 1]? with
  | none => rw [hx] at hk; cases hk
  | some x =>
    rw [hx] at hk
    injection hk with hk
    rw [← hk, show o + 1 + k = o + (k + 1) by omega]
    exact hc (k + 1) x hx

theorem SelIn.app {w0 wr w' : World} {g : Nat} {q : Reqr} {cs : List Cse} (h : SelIn w0 g q cs wr) {o : Obj} {x : Cse} {A' : Option Addr} {c' : Nat} (hs : w'.ownsRow w0.heap.size 110 3 (.slice A' (q.n + 1) c') (q.n + 1) (rows (cs ++ [x])))
    (hg : (wr.alloc o).grownBy w' (Value.slice q.A q.n q.c).ownBlock) : SelIn w0 g { q with A := A', n := q.n + 1, c := c' } (cs ++ [x]) (w'.setCell ⟨g, 4, none⟩ (.slice A' (q.n + 1) c')) := by
  have hK : Keep (fun k => Value.ownBlock (.slice q.A q.n q.c) = some k) wr w' := ((Keep.refl _ _).alloc o).trans (.of_grown hg (fun k hk => hk))
  have hS : Keep (fun k => k = g) w' (w'.setCell ⟨g, 4, none⟩ (.slice A' (q.n + 1) c')) := (Keep.refl _ _).set_ _ _ _ (.inr rfl)
  have hb := hK.blk h.blk (fun e => own_blk_ne h.own h.blk (by decide) e.symm)
  have hr := hK.blk h.res (fun e => own_blk_ne h.own h.res (by decide) e.symm)
  have hlow := h.low
  refine ⟨hS.blk hr (fun e => by omega), hb.set_ 4 _, hS.own hs (fun k hk e => own_blk_ne hs hb (by decide) (by rw [hk, e])), ?_, hlow⟩
  exact (h.bel.trans (hK.below (own_block h.own) h.bel.size)).trans (hS.below (fun k e => by omega) (Nat.le_trans h.bel.size hK.size))

def SelNo (l : List ByteArray) (w : World) (e : Ending) (w' : World) : Prop := selQ l = none ∧ ∃ q : Reqr, e = .returned (.tuple #[reqV q, .bool false]) ∧ Below w.heap.size w w'
def SelOk (l : List ByteArray) (w : World) (e : Ending) (w' : World) : Prop := ∃ (r : Rq) (A : Option Addr) (c : Nat), selQ l = some r ∧ r.kind = 3 ∧ r.arg = 0 ∧ r.value = 0 ∧ e = .returned (.tuple #[reqV ⟨3, 0, 0, r.dflt, A, r.cs.length, c⟩, .bool true]) ∧ Rd w' A (rows r.cs) ∧ (∀ b o, A = some ⟨b, o, none⟩ → w.heap.size ≤ b) ∧ Below w.heap.size w w'

set_option maxHeartbeats 16000000 in
set_option maxRecDepth 100000 in
theorem selects_any (A : Option Addr) (n c : Nat) (l : List ByteArray) (w : World) (hl : l.length = n) (hn : n ≤ 1048576) (hc : n ≤ c) (hR : Rd w A (rows l)) (hz : ∀ x ∈ l, x.size ≤ 1073741824) (he : ErrT w) (ht : TabT w) (hm : MLT w) :
    Calls Tryz.prog 99 #[.slice A n c] w fun e w' => SelNo l w e w' ∨ SelOk l w e w' := by
  have HRL := Lib.hid hR
  have HZ := Lib.hid hz
  have HLN := Lib.hid hl
  have HE := Lib.hid he
  have HT := Lib.hid ht
  have HM := Lib.hid hm
  clear hR hz hl he ht hm
  by_cases hd : dfltQ l = true
  · have HVS : RowKit.Hid (selQ l = selN true (casesQ l.tail)) := Lib.hid (by unfold selQ restQ; rw [if_pos hd, hd])
    have hdd : 0 < l.length ∧ l.getD 0 ⟨#[]⟩ = w_defS := of_decide_eq_true hd
    obtain ⟨m, hm⟩ : ∃ m, n = m + 1 := ⟨n - 1, by have := HLN.out; omega⟩
    subst hm
    have HTL : RowKit.Hid (l.tail.length = m) := Lib.hid (by rw [List.length_tail, HLN.out]; rfl)
    obtain ⟨bb, oo, rfl, hbl, hcl⟩ := strs_cell HRL.out (fun e => by have := HLN.out; rw [e] at this; simp at this)
    have x0 := hcl 0 (l.getD 0 ⟨#[]⟩) (by rw [List.getD, List.getElem?_eq_getElem hdd.1]; rfl)
    rw [Nat.add_zero, hdd.2] at x0
    have HRT := Lib.hid (rd_tail_at HRL.out (fun e => by have := HLN.out; rw [e] at this; simp at this))
    have HZT : RowKit.Hid (∀ x ∈ l.tail, x.size ≤ 1073741824) := Lib.hid (fun x hx => HZ.out x (List.mem_of_mem_tail hx))
    clear hcl hd hdd HRL HZ HLN
    have HZ := HZT
    have HLN := HTL
    have HRL := HRT
    clear HZT HTL HRT
    unfold w_defS at x0
    have HSI0 : RowKit.Hid (SelIn w (w.heap.size + 1) ⟨3, 0, 0, true, none, 0, 0⟩ [] ((w.alloc (.cells (Reqr.cells ⟨0, 0, 0, false, none, 0, 0⟩).toArray 24)).alloc (.cells (Reqr.cells ⟨3, 0, 0, true, none, 0, 0⟩).toArray 24))) := Lib.hid
      ⟨(Blk.new w _ _).alloc _, blk_new (by simp), own_nil _ _ _ _, ((Below.refl _ _).alloc (Nat.le_refl _) _).alloc (by simp) _, by omega⟩

    by_cases hc1 : c = 1
    · obtain rfl : m = 0 := by omega
      subst hc1
      have HV : RowKit.Hid (selQ l = none) := Lib.hid (by rw [HVS.out, List.eq_nil_of_length_eq_zero HLN.out]; rfl)
      clear HRL
      go_enter Tryz.func99, Tryz.ntmps99
      go_wp2
      clear x0
      have hW0 : RowKit.Hid ((w.alloc (.cells (Reqr.cells ⟨0, 0, 0, false, none, 0, 0⟩).toArray 24)).alloc (.cells (Reqr.cells ⟨3, 0, 0, true, none, 0, 0⟩).toArray 24) = (w.alloc (.cells #[.int .i64 0, .int .i64 0, .int .i64 0, .bool false, .slice none 0 0] 24)).alloc (.cells #[.int .i64 3, .int .i64 0, .int .i64 0, .bool true, .slice none 0 0] 24)) := Lib.hid rfl
      rw [hW0.out] at HSI0
      clear hW0
      generalize (w.alloc (.cells #[.int .i64 0, .int .i64 0, .int .i64 0, .bool false, .slice none 0 0] 24)).alloc (.cells #[.int .i64 3, .int .i64 0, .int .i64 0, .bool true, .slice none 0 0] 24) = W0 at *
      generalize w.heap.size + 1 = g at *
      have HSI := HSI0
      clear HSI0

      go_loopg [24] 0 (fun gg i wr => gg = 0 ∧ i = .int .i64 0 ∧ wr = W0)
      case atStart => exact ⟨rfl, rfl, rfl⟩
      case round =>
        obtain ⟨_, rfl, hW0⟩ := hrel
        rw [← hW0] at HSI
        clear hW0
        have x0 := HSI.out.blk.cell (i := 0) rfl
        have z0 := HSI.out.res.cell (i := 0) rfl
        have f0 := HSI.out.res.frozen 0
        have x1 := HSI.out.blk.cell (i := 1) rfl
        have z1 := HSI.out.res.cell (i := 1) rfl
        have f1 := HSI.out.res.frozen 1
        have x2 := HSI.out.blk.cell (i := 2) rfl
        have z2 := HSI.out.res.cell (i := 2) rfl
        have f2 := HSI.out.res.frozen 2
        have x3 := HSI.out.blk.cell (i := 3) rfl
        have z3 := HSI.out.res.cell (i := 3) rfl
        have f3 := HSI.out.res.frozen 3
        have x4 := HSI.out.blk.cell (i := 4) rfl
        have z4 := HSI.out.res.cell (i := 4) rfl
        have f4 := HSI.out.res.frozen 4
        have hgl := HSI.out.blk.lt
        have hrl := HSI.out.res.lt
        have hrg := HSI.out.low
        have hne1 : ¬ g = w.heap.size := by omega
        have hne2 : ¬ w.heap.size = g := by omega
        have HRS := Lib.hid (((((HSI.out.res.set_ 0 (.int .i64 3)).set_ 1 (.int .i64 0)).set_ 2 (.int .i64 0)).set_ 3 (.bool true)).set_ 4 (.slice none 0 0))
        have HBS := Lib.hid (((((HSI.out.bel.setCell (p := ⟨w.heap.size, 0, none⟩) (Nat.le_refl _) (.int .i64 3)).setCell (p := ⟨w.heap.size, 1, none⟩) (Nat.le_refl _) (.int .i64 0)).setCell (p := ⟨w.heap.size, 2, none⟩) (Nat.le_refl _) (.int .i64 0)).setCell (p := ⟨w.heap.size, 3, none⟩) (Nat.le_refl _) (.bool true)).setCell (p := ⟨w.heap.size, 4, none⟩) (Nat.le_refl _) (.slice none 0 0))
        go_upto_region 13 with (fail)
        go_region
        generalize (((((wr.setCell ⟨w.heap.size, 0, none⟩ (.int .i64 3)).setCell ⟨w.heap.size, 1, none⟩ (.int .i64 0)).setCell ⟨w.heap.size, 2, none⟩ (.int .i64 0)).setCell ⟨w.heap.size, 3, none⟩ (.bool true)).setCell ⟨w.heap.size, 4, none⟩ (.slice none 0 0)) = X at *
        clear x0 x1 x2 x3 x4 z0 z1 z2 z3 z4 f0 f1 f2 f3 f4
        go_wp2
        have hbs := HBS.out
        refine bodyPost_ret (v := .tuple #[reqV ⟨3, 0, 0, true, none, 0, 0⟩, .bool false]) (ret_cell2 (g := w.heap.size) (v := reqV ⟨3, 0, 0, true, none, 0, 0⟩) rfl rfl rfl (req_load (q := ⟨3, 0, 0, true, none, 0, 0⟩) (Blk.drew HRS.out))) rfl ?_
        exact .inl ⟨HV.out, _, rfl, ⟨hbs.os, hbs.tape, hbs.output, hbs.size, hbs.block⟩⟩

    · have q5 : ¬ c - 1 = 0 := by omega
      generalize hT : l.tail = lt at *
      clear hT
      go_enter Tryz.func99, Tryz.ntmps99
      go_wp2
      clear x0
      have hW0 : RowKit.Hid ((w.alloc (.cells (Reqr.cells ⟨0, 0, 0, false, none, 0, 0⟩).toArray 24)).alloc (.cells (Reqr.cells ⟨3, 0, 0, true, none, 0, 0⟩).toArray 24) = (w.alloc (.cells #[.int .i64 0, .int .i64 0, .int .i64 0, .bool false, .slice none 0 0] 24)).alloc (.cells #[.int .i64 3, .int .i64 0, .int .i64 0, .bool true, .slice none 0 0] 24)) := Lib.hid rfl
      rw [hW0.out] at HSI0
      clear hW0
      generalize (w.alloc (.cells #[.int .i64 0, .int .i64 0, .int .i64 0, .bool false, .slice none 0 0] 24)).alloc (.cells #[.int .i64 3, .int .i64 0, .int .i64 0, .bool true, .slice none 0 0] 24) = W0 at *
      generalize w.heap.size + 1 = g at *
      have HSI := HSI0
      clear HSI0

      go_loopg [24] m (fun gg i wr => ∃ (k : Nat) (V : Option Addr) (cv : Nat) (cs : List Cse), k ≤ m ∧ gg = m - k ∧ i = .int .i64 k ∧ casesQ (lt.take k) = some cs ∧ SelIn w g ⟨3, 0, 0, true, V, k, cv⟩ cs wr)
      case atStart => exact ⟨0, none, 0, [], Nat.zero_le _, rfl, rfl, rfl, HSI.out⟩
      case round =>
        obtain ⟨k, V, cv, cs, hk, hg, rfl, hcs, hsi⟩ := hrel
        clear HSI
        have HSI := Lib.hid hsi
        have HG := Lib.hid hg
        have HCS := Lib.hid hcs
        clear hsi hg hcs
        by_cases hlt : k < m
        · have q1 : (k : Int) < (m : Int) := by omega
          have hkl : k < lt.length := by rw [HLN.out]; exact hlt
          obtain ⟨b2, o2, hA, hbl, hcl⟩ := strs_cell (HRL.out.below HSI.out.bel) (fun e => by rw [e] at hkl; exact Nat.not_lt_zero _ hkl)
          injection hA with hA
          injection hA with hA1 hA2
          subst hA1 hA2
          have x0 := hcl k (lt.getD k ⟨#[]⟩) (by rw [List.getD, List.getElem?_eq_getElem hkl]; rfl)
          have hzs := HZ.out (lt.getD k ⟨#[]⟩) (by rw [List.getD, List.getElem?_eq_getElem hkl]; exact List.getElem_mem _)
          have HSTEP := Lib.hid (casesQ_step hkl HCS.out)
          have HDEAD := Lib.hid (fun h => casesQ_dead (l := lt) (k := k + 1) h)
          clear hcl hkl
          generalize lt.getD k ⟨#[]⟩ = s at *
          have HC := Lib.hid (one24_any s wr (by omega) (HE.out.below HSI.out.bel) (HT.out.below HSI.out.bel) (HM.out.below HSI.out.bel))
          clear hzs
          cases hq : caseQ s with
          | none =>
            have HV : RowKit.Hid (selQ l = none) := Lib.hid (by rw [HVS.out, HDEAD.out (by rw [HSTEP.out, hq]; rfl)]; rfl)
            unfold one24No one24Ok at HC
            rw [hq] at HC
            clear hq
            go_wp2_with fail
            refine HC.out.mono ?_
            rintro e w1 (⟨_, rfl, hb1⟩ | ⟨kk, h1, _⟩)
            · have HS1 := Lib.hid (HSI.out.draw (hb1.alloc hb1.size (.cells (Cse.cells Cse.none).toArray 110)))
              go_upto_region 10 with (fail)
              have hW : RowKit.Hid (w1.alloc (.cells (Cse.cells Cse.none).toArray 110) = w1.alloc (.cells #[.int .i64 Cse.none.dir, .int .i64 Cse.none.handle, .int .i64 Cse.none.value] 110)) := Lib.hid rfl
              rw [hW.out] at HS1
              clear hW hb1
              generalize (w1.alloc (.cells #[.int .i64 Cse.none.dir, .int .i64 Cse.none.handle, .int .i64 Cse.none.value] 110)) = W1 at *
              have HRZ := Lib.hid HS1.out.res
              have HBZ := Lib.hid HS1.out.bel
              go_upto_region 10 with (fail)
              refine wp_region_lit ?_
              refine wpList_buildTo rfl 24 #[] rfl (some 35) rfl (Reqr.cells ⟨0, 0, 0, false, none, 0, 0⟩).toArray (by kernel_rfl) ?_
              refine wpList_store_row rfl 24 (.tmp 2) (.tmp 35) rfl w.heap.size (Reqr.cells ⟨0, 0, 0, false, none, 0, 0⟩).toArray rfl rfl 24 (Reqr.cells ⟨0, 0, 0, false, none, 0, 0⟩).toArray HRZ.out (by kernel_rfl) (by kernel_rfl) (by kernel_rfl) ?_
              rw [setRow_self W1 w.heap.size _ _ _ HRZ.out]
              go_wp2
              refine bodyPost_ret (v := .tuple #[reqV ⟨0, 0, 0, false, none, 0, 0⟩, .bool false]) (ret_cell2 (g := w.heap.size) (v := reqV ⟨0, 0, 0, false, none, 0, 0⟩) rfl rfl rfl (req_load HRZ.out)) rfl ?_
              exact .inl ⟨HV.out, _, rfl, HBZ.out⟩

            · cases h1
          | some kk =>
            unfold one24No one24Ok at HC
            rw [hq] at HC HSTEP
            clear hq
            go_wp2_with fail
            refine HC.out.mono ?_
            rintro e w1 (⟨h1, _⟩ | ⟨k2, h1, rfl, hb1⟩)
            · cases h1
            injection h1 with h1
            subst h1
            have HS1 := Lib.hid (HSI.out.draw (hb1.alloc hb1.size (.cells kk.cells.toArray 110)))
            have HBX := Lib.hid (Blk.new w1 110 kk.cells)
            go_upto_region 11 with (fail)
            have hW : RowKit.Hid (w1.alloc (.cells kk.cells.toArray 110) = w1.alloc (.cells #[.int .i64 kk.dir, .int .i64 kk.handle, .int .i64 kk.value] 110)) := Lib.hid rfl
            rw [hW.out] at HS1 HBX
            clear hW hb1
            generalize (w1.alloc (.cells #[.int .i64 kk.dir, .int .i64 kk.handle, .int .i64 kk.value] 110)) = W1 at *
            generalize w1.heap.size = gb at *
            have c0 := HBX.out.cell (i := 0) rfl
            have c1 := HBX.out.cell (i := 1) rfl
            have c2 := HBX.out.cell (i := 2) rfl
            have x4 := HS1.out.blk.cell (i := 4) rfl
            have hgl := HS1.out.blk.lt
            have hgb := HBX.out.lt
            have HLC : RowKit.Hid (w.heap.size ≤ W1.heap.size) := Lib.hid HS1.out.bel.size
            go_wp2_with (at_builtin; (refine wpList_app rfl (.tmp 37) (.tmp 39) 22 110 rfl w.heap.size (cseV Cse.none) 3 24 Tryz.underlying22 CloneC_info rfl (by decide) V k cv (rows cs) rfl (own_below HS1.out.own ((Below.refl _ _).alloc (Nat.le_refl _) _)) (some ⟨W1.heap.size, 0, none⟩) 1 1 (rows [kk]) rfl (by simp) rfl (blk_new (cs := rows [kk]) rfl).rd (rows_one _) (k + 1) rfl (rows (cs ++ [kk])) (by rw [rows_append]) (by unfold maxLen; omega) (by omega) (by have := HLC.out; simp; omega) ?_); intro V3 cv3 w3 hown3 hg3 hb3; have HG3 := Lib.hid (blk_app HS1.out.own HS1.out.blk (by decide) hg3); have f4 := HG3.out.frozen 4; have y4 := HG3.out.cell (i := 4) rfl; have hg3l := HG3.out.lt; have HS3 := Lib.hid (HS1.out.app hown3 hg3))
            go_roundg (m - (k + 1))
            case measure => rw [HG.out]; omega
            case rel => exact ⟨k + 1, V3, cv3, cs ++ [kk], by omega, rfl, by go_num, HSTEP.out, HS3.out⟩
        · obtain rfl : k = m := by omega
          have q1 : ¬ (k : Int) < (k : Int) := by omega
          have HALL : RowKit.Hid (casesQ lt = some cs) := Lib.hid (by
            have := HCS.out
            rwa [List.take_of_length_le (by rw [HLN.out]; exact Nat.le_refl _)] at this)
          have hcl := (casesQ_len HALL.out).trans HLN.out
          have HCL := Lib.hid hcl
          clear hcl
          have x0 := HSI.out.blk.cell (i := 0) rfl
          have x1 := HSI.out.blk.cell (i := 1) rfl
          have x2 := HSI.out.blk.cell (i := 2) rfl
          have x3 := HSI.out.blk.cell (i := 3) rfl
          have x4 := HSI.out.blk.cell (i := 4) rfl
          have z0 := HSI.out.res.cell (i := 0) rfl
          have z1 := HSI.out.res.cell (i := 1) rfl
          have z2 := HSI.out.res.cell (i := 2) rfl
          have z3 := HSI.out.res.cell (i := 3) rfl
          have z4 := HSI.out.res.cell (i := 4) rfl
          have f0 := HSI.out.res.frozen 0
          have f1 := HSI.out.res.frozen 1
          have f2 := HSI.out.res.frozen 2
          have f3 := HSI.out.res.frozen 3
          have f4 := HSI.out.res.frozen 4
          have hgl := HSI.out.blk.lt
          have hrl := HSI.out.res.lt
          have hrg := HSI.out.low
          have hne1 : ¬ g = w.heap.size := by omega
          have hne2 : ¬ w.heap.size = g := by omega
          have HVV : RowKit.Hid (selQ l = if 1 ≤ cs.length ∧ cs.length ≤ 3 then some ⟨3, 0, 0, true, cs⟩ else none) := Lib.hid (by rw [HVS.out, HALL.out]; rfl)
          rw [HCL.out] at HVV
          have hRS := ((((HSI.out.res.set_ 0 (.int .i64 3)).set_ 1 (.int .i64 0)).set_ 2 (.int .i64 0)).set_ 3 (.bool true)).set_ 4 (.slice V k cv)
          have HRS := Lib.hid hRS
          have hown := own_above HSI.out.own
          have HRD : RowKit.Hid (Rd (((((wr.setCell ⟨w.heap.size, 0, none⟩ (.int .i64 3)).setCell ⟨w.heap.size, 1, none⟩ (.int .i64 0)).setCell ⟨w.heap.size, 2, none⟩ (.int .i64 0)).setCell ⟨w.heap.size, 3, none⟩ (.bool true)).setCell ⟨w.heap.size, 4, none⟩ (.slice V k cv)) V (rows cs)) := Lib.hid (by
            have hr := own_rd HSI.out.own
            have hap : ∀ b o, V = some ⟨b, o, none⟩ → b ≠ w.heap.size := fun b o e => by
              intro hb
              subst hb
              exact own_blk_ne HSI.out.own HSI.out.res (by decide) (by rw [e]; rfl)
            exact ((((hr.set_ hap _ _).set_ hap _ _).set_ hap _ _).set_ hap _ _).set_ hap _ _)
          have HBS := Lib.hid (((((HSI.out.bel.setCell (p := ⟨w.heap.size, 0, none⟩) (Nat.le_refl _) (.int .i64 3)).setCell (p := ⟨w.heap.size, 1, none⟩) (Nat.le_refl _) (.int .i64 0)).setCell (p := ⟨w.heap.size, 2, none⟩) (Nat.le_refl _) (.int .i64 0)).setCell (p := ⟨w.heap.size, 3, none⟩) (Nat.le_refl _) (.bool true)).setCell (p := ⟨w.heap.size, 4, none⟩) (Nat.le_refl _) (.slice V k cv))
          clear hRS hown
          by_cases hk0 : 1 ≤ k ∧ k ≤ 3
          · have HV : RowKit.Hid (selQ l = some ⟨3, 0, 0, true, cs⟩) := Lib.hid (by rw [HVV.out, if_pos hk0])
            have q3 : (0 : Int) < (k : Int) := by omega
            have q4 : (k : Int) ≤ 3 := by omega
            have n3 : 0 < k := by omega
            have n4 : k ≤ 3 := by omega
            clear hk0
            go_upto_region 13 with (fail)
            go_region_held3 (fun w' => w'.cell? ⟨g, 0, none⟩ = some (.int .i64 3) ∧ w'.cell? ⟨g, 1, none⟩ = some (.int .i64 0) ∧ w'.cell? ⟨g, 2, none⟩ = some (.int .i64 0) ∧ w'.cell? ⟨g, 3, none⟩ = some (.bool true) ∧ w'.cell? ⟨g, 4, none⟩ = some (.slice V k cv)) (go_keep) (fail)
            generalize (((((wr.setCell ⟨w.heap.size, 0, none⟩ (.int .i64 3)).setCell ⟨w.heap.size, 1, none⟩ (.int .i64 0)).setCell ⟨w.heap.size, 2, none⟩ (.int .i64 0)).setCell ⟨w.heap.size, 3, none⟩ (.bool true)).setCell ⟨w.heap.size, 4, none⟩ (.slice V k cv)) = X at *
            clear x0 x1 x2 x3 x4 z0 z1 z2 z3 z4 f0 f1 f2 f3 f4
            go_wp2
            have hbs := HBS.out
            refine bodyPost_ret (v := .tuple #[reqV ⟨3, 0, 0, true, V, k, cv⟩, .bool true]) (ret_cell2 (g := w.heap.size) (v := reqV ⟨3, 0, 0, true, V, k, cv⟩) rfl rfl rfl (req_load (q := ⟨3, 0, 0, true, V, k, cv⟩) (Blk.drew HRS.out))) rfl ?_
            refine .inr ⟨⟨3, 0, 0, true, cs⟩, V, cv, HV.out, rfl, rfl, rfl, ?_, HRD.out, own_above HSI.out.own, ⟨hbs.os, hbs.tape, hbs.output, hbs.size, hbs.block⟩⟩
            rw [HCL.out]
          · have HV : RowKit.Hid (selQ l = none) := Lib.hid (by rw [HVV.out, if_neg hk0])
            by_cases hk1 : k = 0
            · have n3 : ¬ 0 < k := by omega
              have q3 : ¬ (0 : Int) < (k : Int) := by omega
              clear hk0 hk1
              go_upto_region 13 with (fail)
              go_region
              generalize (((((wr.setCell ⟨w.heap.size, 0, none⟩ (.int .i64 3)).setCell ⟨w.heap.size, 1, none⟩ (.int .i64 0)).setCell ⟨w.heap.size, 2, none⟩ (.int .i64 0)).setCell ⟨w.heap.size, 3, none⟩ (.bool true)).setCell ⟨w.heap.size, 4, none⟩ (.slice V k cv)) = X at *
              clear x0 x1 x2 x3 x4 z0 z1 z2 z3 z4 f0 f1 f2 f3 f4
              go_wp2
              have hbs := HBS.out
              refine bodyPost_ret (v := .tuple #[reqV ⟨3, 0, 0, true, V, k, cv⟩, .bool false]) (ret_cell2 (g := w.heap.size) (v := reqV ⟨3, 0, 0, true, V, k, cv⟩) rfl rfl rfl (req_load (q := ⟨3, 0, 0, true, V, k, cv⟩) (Blk.drew HRS.out))) rfl ?_
              exact .inl ⟨HV.out, _, rfl, ⟨hbs.os, hbs.tape, hbs.output, hbs.size, hbs.block⟩⟩
            · have n3 : 0 < k := by omega
              have n4 : ¬ k ≤ 3 := by omega
              have q3 : (0 : Int) < (k : Int) := by omega
              have q4 : ¬ (k : Int) ≤ 3 := by omega
              clear hk0 hk1
              go_upto_region 13 with (fail)
              go_region_held3 (fun w' => w'.cell? ⟨g, 0, none⟩ = some (.int .i64 3) ∧ w'.cell? ⟨g, 1, none⟩ = some (.int .i64 0) ∧ w'.cell? ⟨g, 2, none⟩ = some (.int .i64 0) ∧ w'.cell? ⟨g, 3, none⟩ = some (.bool true) ∧ w'.cell? ⟨g, 4, none⟩ = some (.slice V k cv)) (go_keep) (fail)
              generalize (((((wr.setCell ⟨w.heap.size, 0, none⟩ (.int .i64 3)).setCell ⟨w.heap.size, 1, none⟩ (.int .i64 0)).setCell ⟨w.heap.size, 2, none⟩ (.int .i64 0)).setCell ⟨w.heap.size, 3, none⟩ (.bool true)).setCell ⟨w.heap.size, 4, none⟩ (.slice V k cv)) = X at *
              clear x0 x1 x2 x3 x4 z0 z1 z2 z3 z4 f0 f1 f2 f3 f4
              go_wp2
              have hbs := HBS.out
              refine bodyPost_ret (v := .tuple #[reqV ⟨3, 0, 0, true, V, k, cv⟩, .bool false]) (ret_cell2 (g := w.heap.size) (v := reqV ⟨3, 0, 0, true, V, k, cv⟩) rfl rfl rfl (req_load (q := ⟨3, 0, 0, true, V, k, cv⟩) (Blk.drew HRS.out))) rfl ?_
              exact .inl ⟨HV.out, _, rfl, ⟨hbs.os, hbs.tape, hbs.output, hbs.size, hbs.block⟩⟩

  · have hdf : dfltQ l = false := by simpa using hd
    have HVS : RowKit.Hid (selQ l = selN false (casesQ l)) := Lib.hid (by unfold selQ restQ; rw [if_neg hd, hdf])
    have HHD : RowKit.Hid (0 < n → ¬ l.getD 0 ⟨#[]⟩ = w_defS) := Lib.hid (fun h e => hd (by unfold dfltQ; exact decide_eq_true ⟨by rw [HLN.out]; exact h, e⟩))
    clear hd hdf
    have HSI0 : RowKit.Hid (SelIn w (w.heap.size + 1) ⟨3, 0, 0, false, none, 0, 0⟩ [] ((w.alloc (.cells (Reqr.cells ⟨0, 0, 0, false, none, 0, 0⟩).toArray 24)).alloc (.cells (Reqr.cells ⟨3, 0, 0, false, none, 0, 0⟩).toArray 24))) := Lib.hid
      ⟨(Blk.new w _ _).alloc _, blk_new (by simp), own_nil _ _ _ _, ((Below.refl _ _).alloc (Nat.le_refl _) _).alloc (by simp) _, by omega⟩

    by_cases hn0 : n = 0
    · subst hn0
      have HV : RowKit.Hid (selQ l = none) := Lib.hid (by rw [HVS.out, List.eq_nil_of_length_eq_zero HLN.out]; rfl)
      clear HHD
      go_enter Tryz.func99, Tryz.ntmps99
      go_wp2
      have hW0 : RowKit.Hid ((w.alloc (.cells (Reqr.cells ⟨0, 0, 0, false, none, 0, 0⟩).toArray 24)).alloc (.cells (Reqr.cells ⟨3, 0, 0, false, none, 0, 0⟩).toArray 24) = (w.alloc (.cells #[.int .i64 0, .int .i64 0, .int .i64 0, .bool false, .slice none 0 0] 24)).alloc (.cells #[.int .i64 3, .int .i64 0, .int .i64 0, .bool false, .slice none 0 0] 24)) := Lib.hid rfl
      rw [hW0.out] at HSI0
      clear hW0
      generalize (w.alloc (.cells #[.int .i64 0, .int .i64 0, .int .i64 0, .bool false, .slice none 0 0] 24)).alloc (.cells #[.int .i64 3, .int .i64 0, .int .i64 0, .bool false, .slice none 0 0] 24) = W0 at *
      generalize w.heap.size + 1 = g at *
      have HSI := HSI0
      clear HSI0

      go_loopg [24] 0 (fun gg i wr => gg = 0 ∧ i = .int .i64 0 ∧ wr = W0)
      case atStart => exact ⟨rfl, rfl, rfl⟩
      case round =>
        obtain ⟨_, rfl, hW0⟩ := hrel
        rw [← hW0] at HSI
        clear hW0
        have x0 := HSI.out.blk.cell (i := 0) rfl
        have z0 := HSI.out.res.cell (i := 0) rfl
        have f0 := HSI.out.res.frozen 0
        have x1 := HSI.out.blk.cell (i := 1) rfl
        have z1 := HSI.out.res.cell (i := 1) rfl
        have f1 := HSI.out.res.frozen 1
        have x2 := HSI.out.blk.cell (i := 2) rfl
        have z2 := HSI.out.res.cell (i := 2) rfl
        have f2 := HSI.out.res.frozen 2
        have x3 := HSI.out.blk.cell (i := 3) rfl
        have z3 := HSI.out.res.cell (i := 3) rfl
        have f3 := HSI.out.res.frozen 3
        have x4 := HSI.out.blk.cell (i := 4) rfl
        have z4 := HSI.out.res.cell (i := 4) rfl
        have f4 := HSI.out.res.frozen 4
        have hgl := HSI.out.blk.lt
        have hrl := HSI.out.res.lt
        have hrg := HSI.out.low
        have hne1 : ¬ g = w.heap.size := by omega
        have hne2 : ¬ w.heap.size = g := by omega
        have HRS := Lib.hid (((((HSI.out.res.set_ 0 (.int .i64 3)).set_ 1 (.int .i64 0)).set_ 2 (.int .i64 0)).set_ 3 (.bool false)).set_ 4 (.slice none 0 0))
        have HBS := Lib.hid (((((HSI.out.bel.setCell (p := ⟨w.heap.size, 0, none⟩) (Nat.le_refl _) (.int .i64 3)).setCell (p := ⟨w.heap.size, 1, none⟩) (Nat.le_refl _) (.int .i64 0)).setCell (p := ⟨w.heap.size, 2, none⟩) (Nat.le_refl _) (.int .i64 0)).setCell (p := ⟨w.heap.size, 3, none⟩) (Nat.le_refl _) (.bool false)).setCell (p := ⟨w.heap.size, 4, none⟩) (Nat.le_refl _) (.slice none 0 0))
        go_upto_region 13 with (fail)
        go_region
        generalize (((((wr.setCell ⟨w.heap.size, 0, none⟩ (.int .i64 3)).setCell ⟨w.heap.size, 1, none⟩ (.int .i64 0)).setCell ⟨w.heap.size, 2, none⟩ (.int .i64 0)).setCell ⟨w.heap.size, 3, none⟩ (.bool false)).setCell ⟨w.heap.size, 4, none⟩ (.slice none 0 0)) = X at *
        clear x0 x1 x2 x3 x4 z0 z1 z2 z3 z4 f0 f1 f2 f3 f4
        go_wp2
        have hbs := HBS.out
        refine bodyPost_ret (v := .tuple #[reqV ⟨3, 0, 0, false, none, 0, 0⟩, .bool false]) (ret_cell2 (g := w.heap.size) (v := reqV ⟨3, 0, 0, false, none, 0, 0⟩) rfl rfl rfl (req_load (q := ⟨3, 0, 0, false, none, 0, 0⟩) (Blk.drew HRS.out))) rfl ?_
        exact .inl ⟨HV.out, _, rfl, ⟨hbs.os, hbs.tape, hbs.output, hbs.size, hbs.block⟩⟩

    · obtain ⟨bb, oo, rfl, hbl, hcl⟩ := strs_cell HRL.out (fun e => hn0 (by rw [← HLN.out, e]; rfl))
      have x0 := hcl 0 (l.getD 0 ⟨#[]⟩) (by rw [List.getD, List.getElem?_eq_getElem (by rw [HLN.out]; omega)]; rfl)
      rw [Nat.add_zero] at x0
      have e1 := eqL (l := [100, 101, 102, 97, 117, 108, 116]) (HHD.out (by omega)) (by decide +kernel)
      have q0 : (0 : Int) < (n : Int) := by omega
      generalize l.getD 0 ⟨#[]⟩ = h0 at *
      clear hcl HHD
      go_enter Tryz.func99, Tryz.ntmps99
      go_wp2
      clear x0
      have hW0 : RowKit.Hid ((w.alloc (.cells (Reqr.cells ⟨0, 0, 0, false, none, 0, 0⟩).toArray 24)).alloc (.cells (Reqr.cells ⟨3, 0, 0, false, none, 0, 0⟩).toArray 24) = (w.alloc (.cells #[.int .i64 0, .int .i64 0, .int .i64 0, .bool false, .slice none 0 0] 24)).alloc (.cells #[.int .i64 3, .int .i64 0, .int .i64 0, .bool false, .slice none 0 0] 24)) := Lib.hid rfl
      rw [hW0.out] at HSI0
      clear hW0
      generalize (w.alloc (.cells #[.int .i64 0, .int .i64 0, .int .i64 0, .bool false, .slice none 0 0] 24)).alloc (.cells #[.int .i64 3, .int .i64 0, .int .i64 0, .bool false, .slice none 0 0] 24) = W0 at *
      generalize w.heap.size + 1 = g at *
      have HSI := HSI0
      clear HSI0

      go_loopg [24] n (fun gg i wr => ∃ (k : Nat) (V : Option Addr) (cv : Nat) (cs : List Cse), k ≤ n ∧ gg = n - k ∧ i = .int .i64 k ∧ casesQ (l.take k) = some cs ∧ SelIn w g ⟨3, 0, 0, false, V, k, cv⟩ cs wr)
      case atStart => exact ⟨0, none, 0, [], Nat.zero_le _, rfl, rfl, rfl, HSI.out⟩
      case round =>
        obtain ⟨k, V, cv, cs, hk, hg, rfl, hcs, hsi⟩ := hrel
        clear HSI
        have HSI := Lib.hid hsi
        have HG := Lib.hid hg
        have HCS := Lib.hid hcs
        clear hsi hg hcs
        by_cases hlt : k < n
        · have q1 : (k : Int) < (n : Int) := by omega
          have hkl : k < l.length := by rw [HLN.out]; exact hlt
          obtain ⟨b2, o2, hA, hbl, hcl⟩ := strs_cell (HRL.out.below HSI.out.bel) (fun e => by rw [e] at hkl; exact Nat.not_lt_zero _ hkl)
          injection hA with hA
          injection hA with hA1 hA2
          subst hA1 hA2
          have x0 := hcl k (l.getD k ⟨#[]⟩) (by rw [List.getD, List.getElem?_eq_getElem hkl]; rfl)
          have hzs := HZ.out (l.getD k ⟨#[]⟩) (by rw [List.getD, List.getElem?_eq_getElem hkl]; exact List.getElem_mem _)
          have HSTEP := Lib.hid (casesQ_step hkl HCS.out)
          have HDEAD := Lib.hid (fun h => casesQ_dead (l := l) (k := k + 1) h)
          clear hcl hkl
          generalize l.getD k ⟨#[]⟩ = s at *
          have HC := Lib.hid (one24_any s wr (by omega) (HE.out.below HSI.out.bel) (HT.out.below HSI.out.bel) (HM.out.below HSI.out.bel))
          clear hzs
          cases hq : caseQ s with
          | none =>
            have HV : RowKit.Hid (selQ l = none) := Lib.hid (by rw [HVS.out, HDEAD.out (by rw [HSTEP.out, hq]; rfl)]; rfl)
            unfold one24No one24Ok at HC
            rw [hq] at HC
            clear hq
            go_wp2_with fail
            refine HC.out.mono ?_
            rintro e w1 (⟨_, rfl, hb1⟩ | ⟨kk, h1, _⟩)
            · have HS1 := Lib.hid (HSI.out.draw (hb1.alloc hb1.size (.cells (Cse.cells Cse.none).toArray 110)))
              go_upto_region 10 with (fail)
              have hW : RowKit.Hid (w1.alloc (.cells (Cse.cells Cse.none).toArray 110) = w1.alloc (.cells #[.int .i64 Cse.none.dir, .int .i64 Cse.none.handle, .int .i64 Cse.none.value] 110)) := Lib.hid rfl
              rw [hW.out] at HS1
              clear hW hb1
              generalize (w1.alloc (.cells #[.int .i64 Cse.none.dir, .int .i64 Cse.none.handle, .int .i64 Cse.none.value] 110)) = W1 at *
              have HRZ := Lib.hid HS1.out.res
              have HBZ := Lib.hid HS1.out.bel
              go_upto_region 10 with (fail)
              refine wp_region_lit ?_
              refine wpList_buildTo rfl 24 #[] rfl (some 35) rfl (Reqr.cells ⟨0, 0, 0, false, none, 0, 0⟩).toArray (by kernel_rfl) ?_
              refine wpList_store_row rfl 24 (.tmp 2) (.tmp 35) rfl w.heap.size (Reqr.cells ⟨0, 0, 0, false, none, 0, 0⟩).toArray rfl rfl 24 (Reqr.cells ⟨0, 0, 0, false, none, 0, 0⟩).toArray HRZ.out (by kernel_rfl) (by kernel_rfl) (by kernel_rfl) ?_
              rw [setRow_self W1 w.heap.size _ _ _ HRZ.out]
              go_wp2
              refine bodyPost_ret (v := .tuple #[reqV ⟨0, 0, 0, false, none, 0, 0⟩, .bool false]) (ret_cell2 (g := w.heap.size) (v := reqV ⟨0, 0, 0, false, none, 0, 0⟩) rfl rfl rfl (req_load HRZ.out)) rfl ?_
              exact .inl ⟨HV.out, _, rfl, HBZ.out⟩

            · cases h1
          | some kk =>
            unfold one24No one24Ok at HC
            rw [hq] at HC HSTEP
            clear hq
            go_wp2_with fail
            refine HC.out.mono ?_
            rintro e w1 (⟨h1, _⟩ | ⟨k2, h1, rfl, hb1⟩)
            · cases h1
            injection h1 with h1
            subst h1
            have HS1 := Lib.hid (HSI.out.draw (hb1.alloc hb1.size (.cells kk.cells.toArray 110)))
            have HBX := Lib.hid (Blk.new w1 110 kk.cells)
            go_upto_region 11 with (fail)
            have hW : RowKit.Hid (w1.alloc (.cells kk.cells.toArray 110) = w1.alloc (.cells #[.int .i64 kk.dir, .int .i64 kk.handle, .int .i64 kk.value] 110)) := Lib.hid rfl
            rw [hW.out] at HS1 HBX
            clear hW hb1
            generalize (w1.alloc (.cells #[.int .i64 kk.dir, .int .i64 kk.handle, .int .i64 kk.value] 110)) = W1 at *
            generalize w1.heap.size = gb at *
            have c0 := HBX.out.cell (i := 0) rfl
            have c1 := HBX.out.cell (i := 1) rfl
            have c2 := HBX.out.cell (i := 2) rfl
            have x4 := HS1.out.blk.cell (i := 4) rfl
            have hgl := HS1.out.blk.lt
            have hgb := HBX.out.lt
            have HLC : RowKit.Hid (w.heap.size ≤ W1.heap.size) := Lib.hid HS1.out.bel.size
            go_wp2_with (at_builtin; (refine wpList_app rfl (.tmp 37) (.tmp 39) 22 110 rfl w.heap.size (cseV Cse.none) 3 24 Tryz.underlying22 CloneC_info rfl (by decide) V k cv (rows cs) rfl (own_below HS1.out.own ((Below.refl _ _).alloc (Nat.le_refl _) _)) (some ⟨W1.heap.size, 0, none⟩) 1 1 (rows [kk]) rfl (by simp) rfl (blk_new (cs := rows [kk]) rfl).rd (rows_one _) (k + 1) rfl (rows (cs ++ [kk])) (by rw [rows_append]) (by unfold maxLen; omega) (by omega) (by have := HLC.out; simp; omega) ?_); intro V3 cv3 w3 hown3 hg3 hb3; have HG3 := Lib.hid (blk_app HS1.out.own HS1.out.blk (by decide) hg3); have f4 := HG3.out.frozen 4; have y4 := HG3.out.cell (i := 4) rfl; have hg3l := HG3.out.lt; have HS3 := Lib.hid (HS1.out.app hown3 hg3))
            go_roundg (n - (k + 1))
            case measure => rw [HG.out]; omega
            case rel => exact ⟨k + 1, V3, cv3, cs ++ [kk], by omega, rfl, by go_num, HSTEP.out, HS3.out⟩
        · obtain rfl : k = n := by omega
          have q1 : ¬ (k : Int) < (k : Int) := by omega
          have HALL : RowKit.Hid (casesQ l = some cs) := Lib.hid (by
            have := HCS.out
            rwa [List.take_of_length_le (by rw [HLN.out]; exact Nat.le_refl _)] at this)
          have hcl := (casesQ_len HALL.out).trans HLN.out
          have HCL := Lib.hid hcl
          clear hcl
          have x0 := HSI.out.blk.cell (i := 0) rfl
          have x1 := HSI.out.blk.cell (i := 1) rfl
          have x2 := HSI.out.blk.cell (i := 2) rfl
          have x3 := HSI.out.blk.cell (i := 3) rfl
          have x4 := HSI.out.blk.cell (i := 4) rfl
          have z0 := HSI.out.res.cell (i := 0) rfl
          have z1 := HSI.out.res.cell (i := 1) rfl
          have z2 := HSI.out.res.cell (i := 2) rfl
          have z3 := HSI.out.res.cell (i := 3) rfl
          have z4 := HSI.out.res.cell (i := 4) rfl
          have f0 := HSI.out.res.frozen 0
          have f1 := HSI.out.res.frozen 1
          have f2 := HSI.out.res.frozen 2
          have f3 := HSI.out.res.frozen 3
          have f4 := HSI.out.res.frozen 4
          have hgl := HSI.out.blk.lt
          have hrl := HSI.out.res.lt
          have hrg := HSI.out.low
          have hne1 : ¬ g = w.heap.size := by omega
          have hne2 : ¬ w.heap.size = g := by omega
          have HVV : RowKit.Hid (selQ l = if 1 ≤ cs.length ∧ cs.length ≤ 3 then some ⟨3, 0, 0, false, cs⟩ else none) := Lib.hid (by rw [HVS.out, HALL.out]; rfl)
          rw [HCL.out] at HVV
          have hRS := ((((HSI.out.res.set_ 0 (.int .i64 3)).set_ 1 (.int .i64 0)).set_ 2 (.int .i64 0)).set_ 3 (.bool false)).set_ 4 (.slice V k cv)
          have HRS := Lib.hid hRS
          have hown := own_above HSI.out.own
          have HRD : RowKit.Hid (Rd (((((wr.setCell ⟨w.heap.size, 0, none⟩ (.int .i64 3)).setCell ⟨w.heap.size, 1, none⟩ (.int .i64 0)).setCell ⟨w.heap.size, 2, none⟩ (.int .i64 0)).setCell ⟨w.heap.size, 3, none⟩ (.bool false)).setCell ⟨w.heap.size, 4, none⟩ (.slice V k cv)) V (rows cs)) := Lib.hid (by
            have hr := own_rd HSI.out.own
            have hap : ∀ b o, V = some ⟨b, o, none⟩ → b ≠ w.heap.size := fun b o e => by
              intro hb
              subst hb
              exact own_blk_ne HSI.out.own HSI.out.res (by decide) (by rw [e]; rfl)
            exact ((((hr.set_ hap _ _).set_ hap _ _).set_ hap _ _).set_ hap _ _).set_ hap _ _)
          have HBS := Lib.hid (((((HSI.out.bel.setCell (p := ⟨w.heap.size, 0, none⟩) (Nat.le_refl _) (.int .i64 3)).setCell (p := ⟨w.heap.size, 1, none⟩) (Nat.le_refl _) (.int .i64 0)).setCell (p := ⟨w.heap.size, 2, none⟩) (Nat.le_refl _) (.int .i64 0)).setCell (p := ⟨w.heap.size, 3, none⟩) (Nat.le_refl _) (.bool false)).setCell (p := ⟨w.heap.size, 4, none⟩) (Nat.le_refl _) (.slice V k cv))
          clear hRS hown
          by_cases hk0 : 1 ≤ k ∧ k ≤ 3
          · have HV : RowKit.Hid (selQ l = some ⟨3, 0, 0, false, cs⟩) := Lib.hid (by rw [HVV.out, if_pos hk0])
            have q3 : (0 : Int) < (k : Int) := by omega
            have q4 : (k : Int) ≤ 3 := by omega
            have n3 : 0 < k := by omega
            have n4 : k ≤ 3 := by omega
            clear hk0
            go_upto_region 13 with (fail)
            go_region_held3 (fun w' => w'.cell? ⟨g, 0, none⟩ = some (.int .i64 3) ∧ w'.cell? ⟨g, 1, none⟩ = some (.int .i64 0) ∧ w'.cell? ⟨g, 2, none⟩ = some (.int .i64 0) ∧ w'.cell? ⟨g, 3, none⟩ = some (.bool false) ∧ w'.cell? ⟨g, 4, none⟩ = some (.slice V k cv)) (go_keep) (fail)
            generalize (((((wr.setCell ⟨w.heap.size, 0, none⟩ (.int .i64 3)).setCell ⟨w.heap.size, 1, none⟩ (.int .i64 0)).setCell ⟨w.heap.size, 2, none⟩ (.int .i64 0)).setCell ⟨w.heap.size, 3, none⟩ (.bool false)).setCell ⟨w.heap.size, 4, none⟩ (.slice V k cv)) = X at *
            clear x0 x1 x2 x3 x4 z0 z1 z2 z3 z4 f0 f1 f2 f3 f4
            go_wp2
            have hbs := HBS.out
            refine bodyPost_ret (v := .tuple #[reqV ⟨3, 0, 0, false, V, k, cv⟩, .bool true]) (ret_cell2 (g := w.heap.size) (v := reqV ⟨3, 0, 0, false, V, k, cv⟩) rfl rfl rfl (req_load (q := ⟨3, 0, 0, false, V, k, cv⟩) (Blk.drew HRS.out))) rfl ?_
            refine .inr ⟨⟨3, 0, 0, false, cs⟩, V, cv, HV.out, rfl, rfl, rfl, ?_, HRD.out, own_above HSI.out.own, ⟨hbs.os, hbs.tape, hbs.output, hbs.size, hbs.block⟩⟩
            rw [HCL.out]
          · have HV : RowKit.Hid (selQ l = none) := Lib.hid (by rw [HVV.out, if_neg hk0])
            by_cases hk1 : k = 0
            · exact absurd hk1 hn0
            · have n3 : 0 < k := by omega
              have n4 : ¬ k ≤ 3 := by omega
              have q3 : (0 : Int) < (k : Int) := by omega
              have q4 : ¬ (k : Int) ≤ 3 := by omega
              clear hk0 hk1
              go_upto_region 13 with (fail)
              go_region_held3 (fun w' => w'.cell? ⟨g, 0, none⟩ = some (.int .i64 3) ∧ w'.cell? ⟨g, 1, none⟩ = some (.int .i64 0) ∧ w'.cell? ⟨g, 2, none⟩ = some (.int .i64 0) ∧ w'.cell? ⟨g, 3, none⟩ = some (.bool false) ∧ w'.cell? ⟨g, 4, none⟩ = some (.slice V k cv)) (go_keep) (fail)
              generalize (((((wr.setCell ⟨w.heap.size, 0, none⟩ (.int .i64 3)).setCell ⟨w.heap.size, 1, none⟩ (.int .i64 0)).setCell ⟨w.heap.size, 2, none⟩ (.int .i64 0)).setCell ⟨w.heap.size, 3, none⟩ (.bool false)).setCell ⟨w.heap.size, 4, none⟩ (.slice V k cv)) = X at *
              clear x0 x1 x2 x3 x4 z0 z1 z2 z3 z4 f0 f1 f2 f3 f4
              go_wp2
              have hbs := HBS.out
              refine bodyPost_ret (v := .tuple #[reqV ⟨3, 0, 0, false, V, k, cv⟩, .bool false]) (ret_cell2 (g := w.heap.size) (v := reqV ⟨3, 0, 0, false, V, k, cv⟩) rfl rfl rfl (req_load (q := ⟨3, 0, 0, false, V, k, cv⟩) (Blk.drew HRS.out))) rfl ?_
              exact .inl ⟨HV.out, _, rfl, ⟨hbs.os, hbs.tape, hbs.output, hbs.size, hbs.block⟩⟩


end Go.Proofs.YtalkllfgedacoaaGreatDoor
