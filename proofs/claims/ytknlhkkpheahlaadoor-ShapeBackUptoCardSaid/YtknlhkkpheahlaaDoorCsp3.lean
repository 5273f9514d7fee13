/- csp: Answer, walked. -/
import Derived.Test.YtknlhkkpheahlaaDoorCsp2
import Derived.Laws.ResultCell
import Derived.Laws.Rows
namespace Go.Proofs.YtknlhkkpheahlaaDoor
open Go.RowKit Go.Sort

/-- What a call came to, as told. -/
structure Resr where
  (seq case_ code value : Int)
abbrev rsV (r : Resr) : Value := .agg #[.int .i64 r.seq, .int .i64 r.case_, .int .i64 r.code, .int .i64 r.value]
def Resr.cells (r : Resr) : List Value := [.int .i64 r.seq, .int .i64 r.case_, .int .i64 r.code, .int .i64 r.value]
abbrev outV (v c : Int) (ok : Bool) (err : Value) : Value := .agg #[.int .i64 v, .int .i64 c, .bool ok, err]
def outC (v c : Int) (ok : Bool) (err : Value) : List Value := [.int .i64 v, .int .i64 c, .bool ok, err]
def thrS : ByteArray := ⟨#[116, 104, 114, 101, 97, 100]⟩

theorem rsBox {w : World} {g : Nat} {r : Resr} (h : Blk w g 27 r.cells) :
    w.cell? ⟨g, 0, none⟩ = some (.int .i64 r.seq) ∧ w.cell? ⟨g, 1, none⟩ = some (.int .i64 r.case_) ∧ w.cell? ⟨g, 2, none⟩ = some (.int .i64 r.code) ∧ w.cell? ⟨g, 3, none⟩ = some (.int .i64 r.value) :=
  ⟨h.cell rfl, h.cell rfl, h.cell rfl, h.cell rfl⟩
theorem outBox {w : World} {g : Nat} {v c : Int} {ok : Bool} {err : Value} (h : Blk w g 31 (outC v c ok err)) :
    w.cell? ⟨g, 0, none⟩ = some (.int .i64 v) ∧ w.cell? ⟨g, 1, none⟩ = some (.int .i64 c) ∧ w.cell? ⟨g, 2, none⟩ = some (.bool ok) ∧ w.cell? ⟨g, 3, none⟩ = some err :=
  ⟨h.cell rfl, h.cell rfl, h.cell rfl, h.cell rfl⟩

/-- How the call's own blocks lie. -/
structure AnsAt (w W : World) (q : Reqr) (r : Resr) : Prop where
  bq : Blk W w.heap.size 24 q.cells
  br : Blk W (w.heap.size + 1) 27 r.cells
  b6 : Blk W (w.heap.size + 2) 31 (outC 0 0 false .nilIface)
  b7 : Blk W (w.heap.size + 3) 31 (outC r.value r.case_ false .nilIface)
  size : W.heap.size = w.heap.size + 4
  below : Below w.heap.size w W

theorem ans_at (w : World) (q : Reqr) (r : Resr) : AnsAt w ((((w.alloc (.cells q.cells.toArray 24)).alloc (.cells r.cells.toArray 27)).alloc (.cells (outC 0 0 false .nilIface).toArray 31)).alloc (.cells (outC r.value r.case_ false .nilIface).toArray 31)) q r :=
  ⟨(((Blk.new w _ _).alloc _).alloc _).alloc _, ((blk_new (by simp)).alloc _).alloc _, (blk_new (by simp)).alloc _, blk_new (by simp), by simp,
    ((((Below.refl _ _).alloc (Nat.le_refl _) _).alloc (by simp) _).alloc (by simp; omega) _).alloc (by simp; omega) _⟩

theorem results_cell1 {fn : Func} {p : Tmp} {ty : TypeId} (h : fn.results = #[.cell p ty]) (tmps : Array Value) (P : Program) (w : World) :
    (results fn tmps).run P w = ((asAddr (tmps.getD p undef)).run P w).andThen fun a w₁ => (loadVar ty a).run P w₁ := by
  simp only [results, h]
  simp

/-- A struct that is handed back out of its cell. -/
theorem ret_cell {fn : Func} {p : Tmp} {ty : TypeId} (h : fn.results = #[.cell p ty]) {tmps : Array Value} {w : World} {g : Nat} {v : Value} (ht : tmps.getD p undef = .pointer (some ⟨g, 0, none⟩)) (hl : (loadVar ty ⟨g, 0, none⟩).run Tryd.prog w = .ok v w) :
    (results fn tmps).run Tryd.prog w = .ok v w := by
  rw [results_cell1 h, ht]
  have ha : (asAddr (.pointer (some ⟨g, 0, none⟩))).run Tryd.prog w = .ok ⟨g, 0, none⟩ w := by simp [asAddr, go_sem]
  rw [ha, Result.andThen_ok]
  exact hl
theorem out_load {w : World} {g : Nat} {v c : Int} {ok : Bool} {err : Value} (h : Blk w g 31 (outC v c ok err)) : (loadVar 31 ⟨g, 0, none⟩).run Tryd.prog w = .ok (outV v c ok err) w :=
  run_loadVar_row (P := Tryd.prog) w g 31 31 _ (0, 0) _ h Tryd.underlying31 rfl (by kernel_rfl)

set_option maxHeartbeats 4000000 in
set_option maxRecDepth 100000 in
theorem Answer_ok (t : Int) (q : Reqr) (r : Resr) (w : World) (h0 : r.code = 0) :
    Calls Tryd.prog 6 #[.int .i64 t, reqV q, rsV r] w fun e w' => e = .returned (outV r.value r.case_ true .nilIface) ∧ Below w.heap.size w w' := by
  have b0 : (r.code == 0) = true := by simp [h0]
  unfold reqV rsV
  clear h0
  go_enter Tryd.func6, Tryd.ntmps6
  go_wp2
  refine bodyPost_ret (v := outV r.value r.case_ true .nilIface) (ret_cell (g := w.heap.size + 1 + 1) rfl rfl (out_load (Blk.alloc (blk_new (cs := outC r.value r.case_ true .nilIface) (by simp)) _))) rfl ⟨rfl, ?_⟩
  exact ((((Below.refl _ _).alloc (Nat.le_refl _) _).alloc (by simp) _).alloc (by simp; omega) _).alloc (by simp; omega) _

/-- An outcome is written. -/
theorem out_put {w : World} {g : Nat} {v c : Int} {ok : Bool} {err : Value} (h : Blk w g 31 (outC v c ok err)) (v' c' : Int) (ok' : Bool) (err' : Value) :
    Blk ((((w.setCell ⟨g, 0, none⟩ (.int .i64 v')).setCell ⟨g, 1, none⟩ (.int .i64 c')).setCell ⟨g, 2, none⟩ (.bool ok')).setCell ⟨g, 3, none⟩ err') g 31 (outC v' c' ok' err') ∧
    ∀ B, B ≤ g → Below B w ((((w.setCell ⟨g, 0, none⟩ (.int .i64 v')).setCell ⟨g, 1, none⟩ (.int .i64 c')).setCell ⟨g, 2, none⟩ (.bool ok')).setCell ⟨g, 3, none⟩ err') :=
  ⟨(((h.set_ 0 (.int .i64 v')).set_ 1 (.int .i64 c')).set_ 2 (.bool ok')).set_ 3 err',
   fun B hB => ((((Below.refl B w).setCell (p := ⟨g, 0, none⟩) hB _).setCell (p := ⟨g, 1, none⟩) hB _).setCell (p := ⟨g, 2, none⟩) hB _).setCell (p := ⟨g, 3, none⟩) hB _⟩

/-- Told, without an error: a default, or a channel that is closed. -/
def quietB (q : Reqr) (l : List Cse) (r : Resr) : Prop := (r.code = 10 ∧ q.kind = 3) ∨ (r.code = 9 ∧ recvB l r.case_ = true)

set_option maxHeartbeats 4000000 in
set_option maxRecDepth 100000 in
theorem Answer_dflt (t : Int) (q : Reqr) (r : Resr) (w : World) (h0 : r.code = 10) (h1 : q.kind = 3) :
    Calls Tryd.prog 6 #[.int .i64 t, reqV q, rsV r] w fun e w' => e = .returned (outV r.value r.case_ false .nilIface) ∧ Below w.heap.size w w' := by
  have b0 : (r.code == 0) = false := by simp [h0]
  have b1 : (r.code == 10) = true := by simp [h0]
  have b2 : (q.kind == 3) = true := by simp [h1]
  unfold reqV rsV
  clear h0 h1
  go_enter Tryd.func6, Tryd.ntmps6
  go_wp2
  refine bodyPost_ret (v := outV r.value r.case_ false .nilIface) (ret_cell (g := w.heap.size + 1 + 1) rfl rfl (out_load (Blk.alloc (blk_new (cs := outC r.value r.case_ false .nilIface) (by simp)) _))) rfl ⟨rfl, ?_⟩
  exact ((((Below.refl _ _).alloc (Nat.le_refl _) _).alloc (by simp) _).alloc (by simp; omega) _).alloc (by simp; omega) _

set_option maxHeartbeats 4000000 in
set_option maxRecDepth 100000 in
theorem Answer_recv (t : Int) (q : Reqr) (l : List Cse) (r : Resr) (w : World) (h : ReqAt w q l) (h0 : r.code = 9) (h1 : recvB l r.case_ = true) :
    Calls Tryd.prog 6 #[.int .i64 t, reqV q, rsV r] w fun e w' => e = .returned (outV r.value r.case_ false .nilIface) ∧ Below w.heap.size w w' := by
  have HW := Lib.hid (ans_at w q r)
  have HRC := Lib.hid (fun W h => receives_any q l r.case_ W h)
  rw [h1] at HRC
  have HR := Lib.hid h
  have b0 : (r.code == 0) = false := by simp [h0]
  have b1 : (r.code == 10) = false := by simp [h0]
  have b2 : (r.code == 9) = true := by simp [h0]
  unfold reqV rsV
  unfold reqV at HRC
  clear h0 h1 h
  go_enter Tryd.func6, Tryd.ntmps6
  go_wp2_with fail
  refine (HRC.out _ (HR.out.below HW.out.below)).mono ?_
  rintro e w1 ⟨rfl, hb1⟩
  have hs := HW.out.size
  have HB6 := Lib.hid (HW.out.b6.below hb1 (by rw [hs]; omega))
  have HB7 := Lib.hid (HW.out.b7.below hb1 (by rw [hs]; omega))
  have HB := Lib.hid (HW.out.below.trans (hb1.mono (by rw [hs]; omega)))
  have hl6 : w.heap.size + 2 < w1.heap.size := HB6.out.lt
  obtain ⟨a0, a1, a2, a3⟩ := outBox HB6.out
  obtain ⟨c0, c1, c2, c3⟩ := outBox HB7.out
  have f0 := HB6.out.frozen 0
  have f1 := HB6.out.frozen 1
  have f2 := HB6.out.frozen 2
  have f3 := HB6.out.frozen 3
  clear hb1 HW HRC hs
  go_wp2
  obtain ⟨hB, hL⟩ := out_put HB6.out r.value r.case_ false .nilIface
  refine bodyPost_ret (v := outV r.value r.case_ false .nilIface) (ret_cell (g := w.heap.size + 1 + 1) rfl rfl (out_load hB)) rfl ⟨rfl, ?_⟩
  exact HB.out.trans (hL _ (by omega))

/-- Told, with an error that names the call and its handles. -/
def textB (l : List Cse) (r : Resr) : Prop := (r.code = 9 ∧ recvB l r.case_ = false) ∨ r.code = 11 ∨ r.code = 8

set_option maxHeartbeats 8000000 in
set_option maxRecDepth 100000 in
theorem Answer_text (t : Int) (q : Reqr) (l : List Cse) (r : Resr) (w : World) (h : ReqAt w q l) (hl : HandlesOk l) (hn : l.length ≤ 1099511627776000) (ht : TabT w) (h0 : textB l r) :
    Calls Tryd.prog 6 #[.int .i64 t, reqV q, rsV r] w fun e w' => (∃ v, e = .returned (outV 0 r.case_ false v) ∧ Chain w.heap.size w' v [(thrS, t), (textS q l, r.seq)] r.code) ∧ Below w.heap.size w w' := by
  have HW := Lib.hid (show AnsAt w ((((w.alloc (.cells #[.int .i64 q.kind, .int .i64 q.arg, .int .i64 q.value, .bool q.dflt, .slice q.A q.n q.c] 24)).alloc (.cells #[.int .i64 r.seq, .int .i64 r.case_, .int .i64 r.code, .int .i64 r.value] 27)).alloc (.cells #[.int .i64 0, .int .i64 0, .bool false, .nilIface] 31)).alloc (.cells #[.int .i64 r.value, .int .i64 r.case_, .bool false, .nilIface] 31)) q r from ans_at w q r)
  have HRC := Lib.hid (fun W h => receives_any q l r.case_ W h)
  have HTX := Lib.hid (fun W h1 h2 => text_any q l W h1 hl hn h2)
  have HR := Lib.hid h
  have HT := Lib.hid ht
  have HNZ : RowKit.Hid (r.code ≠ 0) := Lib.hid (by unfold textB at h0; omega)
  unfold reqV rsV
  unfold reqV at HRC HTX
  clear h hl hn ht
  have b0 : (r.code == 0) = false := by simpa using HNZ.out
  have b1 : (r.code == 10) = false := by unfold textB at h0; simp; omega
  generalize textS q l = tx at *
  rcases h0 with ⟨h9, hrv⟩ | h0
  case' inl =>
    have b2 : (r.code == 9) = true := by simp [h9]
    rw [hrv] at HRC
    clear h9 hrv
    go_enter Tryd.func6, Tryd.ntmps6
    go_wp2_with fail
    refine (HRC.out _ (HR.out.below HW.out.below)).mono ?_
    rintro e W0 ⟨rfl, hb1⟩
    have hs := HW.out.size
    have HBQ := Lib.hid (HW.out.bq.below hb1 (by rw [hs]; omega))
    have HBR := Lib.hid (HW.out.br.below hb1 (by rw [hs]; omega))
    have HB6 := Lib.hid (HW.out.b6.below hb1 (by rw [hs]; omega))
    have HB7 := Lib.hid (HW.out.b7.below hb1 (by rw [hs]; omega))
    have HB := Lib.hid (HW.out.below.trans (hb1.mono (by rw [hs]; omega)))
    clear hb1 hs HW HRC
    obtain ⟨q0, q1, q2, q3, q4⟩ := reqBox HBQ.out
    obtain ⟨r0, r1, r2, r3⟩ := rsBox HBR.out
    go_upto_region 14 with (fail)
    clear q0 q1 q2 q3 q4 r0 r1 r2 r3
  case' inr =>
    have b2 : (r.code == 9) = false := by simp; omega
    rcases h0 with h0 | h0
  case' inr.inl =>
    have b3 : (r.code == 11) = true := by simp [h0]
    clear h0
    go_enter Tryd.func6, Tryd.ntmps6
    go_upto_region 14 with (fail)
    have HBQ := Lib.hid HW.out.bq
    have HBR := Lib.hid HW.out.br
    have HB6 := Lib.hid HW.out.b6
    have HB7 := Lib.hid HW.out.b7
    have HB := Lib.hid HW.out.below
    clear HW HRC
    generalize ((((w.alloc (.cells #[.int .i64 q.kind, .int .i64 q.arg, .int .i64 q.value, .bool q.dflt, .slice q.A q.n q.c] 24)).alloc (.cells #[.int .i64 r.seq, .int .i64 r.case_, .int .i64 r.code, .int .i64 r.value] 27)).alloc (.cells #[.int .i64 0, .int .i64 0, .bool false, .nilIface] 31)).alloc (.cells #[.int .i64 r.value, .int .i64 r.case_, .bool false, .nilIface] 31)) = W0 at *
  case' inr.inr =>
    have b3 : (r.code == 11) = false := by simp; omega
    have b4 : (r.code == 8) = true := by simp [h0]
    clear h0
    go_enter Tryd.func6, Tryd.ntmps6
    go_upto_region 14 with (fail)
    have HBQ := Lib.hid HW.out.bq
    have HBR := Lib.hid HW.out.br
    have HB6 := Lib.hid HW.out.b6
    have HB7 := Lib.hid HW.out.b7
    have HB := Lib.hid HW.out.below
    clear HW HRC
    generalize ((((w.alloc (.cells #[.int .i64 q.kind, .int .i64 q.arg, .int .i64 q.value, .bool q.dflt, .slice q.A q.n q.c] 24)).alloc (.cells #[.int .i64 r.seq, .int .i64 r.case_, .int .i64 r.code, .int .i64 r.value] 27)).alloc (.cells #[.int .i64 0, .int .i64 0, .bool false, .nilIface] 31)).alloc (.cells #[.int .i64 r.value, .int .i64 r.case_, .bool false, .nilIface] 31)) = W0 at *
  all_goals
    obtain ⟨q0, q1, q2, q3, q4⟩ := reqBox HBQ.out
    obtain ⟨r0, r1, r2, r3⟩ := rsBox HBR.out
    have hl1 := HBQ.out.lt
    have hl2 := HBR.out.lt
    have hl6 := HB6.out.lt
    have hl7 := HB7.out.lt
    have HRW := Lib.hid (HR.out.below HB.out)
    have HTW := Lib.hid (HT.out.below HB.out)
    have HDR := Lib.hid (Below.drewN' (Below.refl W0.heap.size W0) 1)
    go_region_held3 (fun w' => w'.cell? ⟨w.heap.size, 0, none⟩ = some (.int .i64 q.kind) ∧ w'.cell? ⟨w.heap.size, 1, none⟩ = some (.int .i64 q.arg) ∧ w'.cell? ⟨w.heap.size, 2, none⟩ = some (.int .i64 q.value) ∧ w'.cell? ⟨w.heap.size, 3, none⟩ = some (.bool q.dflt) ∧ w'.cell? ⟨w.heap.size, 4, none⟩ = some (.slice q.A q.n q.c) ∧ w'.cell? ⟨w.heap.size + 1, 0, none⟩ = some (.int .i64 r.seq) ∧ w'.cell? ⟨w.heap.size + 1, 2, none⟩ = some (.int .i64 r.code)) (first | go_keep | (simp only [hk1, hk2]; go_keep) | (simp only [kq, kr, hk1, hk2]; go_keep)) (first
      | (go_at_call 31; refine (HTX.out W0.drew (HRW.out.below HDR.out) (HTW.out.below HDR.out)).mono ?_; rintro e w1 ⟨rfl, hb1⟩; have hB1 : Below W0.heap.size W0 w1 := ⟨hb1.os, hb1.tape, hb1.output, hb1.size, hb1.block⟩; have hk1 := fun o => hB1.cell (p := ⟨w.heap.size, o, none⟩) hl1; have hk2 := fun o => hB1.cell (p := ⟨w.heap.size + 1, o, none⟩) hl2)
      | (go_at_call 30; refine (At_any tx r.seq r.code w1 HNZ.out).mono ?_; rintro e w2 ⟨v1, rfl, hc1, hb2⟩; have HC1 := Lib.hid hc1; have hB2 : Below W0.heap.size W0 w2 := hB1.trans (hb2.mono hB1.size); have hk1 := fun o => hB2.cell (p := ⟨w.heap.size, o, none⟩) hl1; have hk2 := fun o => hB2.cell (p := ⟨w.heap.size + 1, o, none⟩) hl2; clear hc1)
      | (go_at_call 29; refine (In_any w1.heap.size ⟨#[116, 104, 114, 101, 97, 100]⟩ t v1 _ _ w2 hb2.size HC1.out).mono ?_; rintro e w3 ⟨v2, rfl, hc2, hb3⟩; obtain ⟨ti, ui, rfl⟩ := hc2.iface; have HC2 := Lib.hid hc2; have hB3 : Below W0.heap.size W0 w3 := hB2.trans (hb3.mono hB2.size); have HB3 := Lib.hid hB3; have hk1 := fun o => hB3.cell (p := ⟨w.heap.size, o, none⟩) hl1; have hk2 := fun o => hB3.cell (p := ⟨w.heap.size + 1, o, none⟩) hl2; have hs3 := hB3.size; have kq := fun o v => (Only.set_ (Only.refl (w.heap.size + 1 + 1 + 1) w3) 3 v).cell (p := ⟨w.heap.size, o, none⟩) (Nat.lt_of_lt_of_le hl1 hs3) (show w.heap.size ≠ w.heap.size + 1 + 1 + 1 by omega); have kr := fun o v => (Only.set_ (Only.refl (w.heap.size + 1 + 1 + 1) w3) 3 v).cell (p := ⟨w.heap.size + 1, o, none⟩) (Nat.lt_of_lt_of_le hl2 hs3) (show w.heap.size + 1 ≠ w.heap.size + 1 + 1 + 1 by omega); have hb7 := HB7.out.below hB3 hl7; have f3 := hb7.frozen 3; have o3 : w3.cell? ⟨w.heap.size + 1 + 1 + 1, 3, none⟩ = some .nilIface := hb7.cell rfl; clear hc2 hb7))
    have HB7' := Lib.hid (show Blk (w3.setCell ⟨w.heap.size + 1 + 1 + 1, 3, none⟩ (.iface ti ui)) (w.heap.size + 3) 31 (outC r.value r.case_ false (.iface ti ui)) from (HB7.out.below HB3.out hl7).set_ 3 (.iface ti ui))
    have hK : Below (w.heap.size + 3) w3 (w3.setCell ⟨w.heap.size + 1 + 1 + 1, 3, none⟩ (.iface ti ui)) := (Below.refl _ w3).setCell (p := ⟨w.heap.size + 1 + 1 + 1, 3, none⟩) (Nat.le_refl _) _
    have HB6' := Lib.hid ((HB6.out.below HB3.out hl6).below hK (by omega))
    have HBX := Lib.hid ((HB.out.trans (HB3.out.mono HB.out.size)).trans (hK.mono (by omega)))
    have HCX := Lib.hid (show Chain (w.heap.size + 4) (w3.setCell ⟨w.heap.size + 1 + 1 + 1, 3, none⟩ (.iface ti ui)) (.iface ti ui) [(thrS, t), (tx, r.seq)] r.code from Chain.mono (by have := hB1.size; omega) (Chain.set_ (b := w.heap.size + 1 + 1 + 1) (i := 3) (.iface ti ui) (by have := hB1.size; omega) HC2.out))
    clear hK kq kr hk1 hk2 o3 f3 q0 q1 q2 q3 q4 r0 r1 r2 r3 HBQ HBR HB6 HB7 HB HRW HTW HDR HC1 HC2 HB3
    generalize w3.setCell ⟨w.heap.size + 1 + 1 + 1, 3, none⟩ (.iface ti ui) = w4 at *
    obtain ⟨a0, a1, a2, a3⟩ := outBox HB6'.out
    obtain ⟨c0, c1, c2, c3⟩ := outBox HB7'.out
    have hl6' : w.heap.size + 2 < w4.heap.size := HB6'.out.lt
    have f0 := HB6'.out.frozen 0
    have f1 := HB6'.out.frozen 1
    have f2 := HB6'.out.frozen 2
    have f3 := HB6'.out.frozen 3
    go_wp2
    obtain ⟨hB, hL⟩ := out_put HB6'.out 0 r.case_ false (.iface ti ui)
    refine bodyPost_ret (v := outV 0 r.case_ false (.iface ti ui)) (ret_cell (g := w.heap.size + 1 + 1) rfl rfl (out_load hB)) rfl ⟨⟨_, rfl, ?_⟩, HBX.out.trans (hL _ (by omega))⟩
    exact Chain.mono (by omega) (Chain.set_ _ (by omega) (Chain.set_ _ (by omega) (Chain.set_ _ (by omega) (Chain.set_ _ (by omega) HCX.out))))

/-- Told, with an error that names the call alone. -/
def bareB (q : Reqr) (r : Resr) : Prop := r.code ≠ 0 ∧ ¬ (r.code = 10 ∧ q.kind = 3) ∧ r.code ≠ 9 ∧ r.code ≠ 11 ∧ r.code ≠ 8

set_option maxHeartbeats 8000000 in
set_option maxRecDepth 100000 in
theorem Answer_bare (t : Int) (q : Reqr) (l : List Cse) (r : Resr) (w : World) (h : ReqAt w q l) (h0 : bareB q r) :
    Calls Tryd.prog 6 #[.int .i64 t, reqV q, rsV r] w fun e w' => (∃ v, e = .returned (outV 0 0 false v) ∧ Chain w.heap.size w' v [(thrS, t), (nameS q l, r.seq)] r.code) ∧ Below w.heap.size w w' := by
  have HW := Lib.hid (show AnsAt w ((((w.alloc (.cells #[.int .i64 q.kind, .int .i64 q.arg, .int .i64 q.value, .bool q.dflt, .slice q.A q.n q.c] 24)).alloc (.cells #[.int .i64 r.seq, .int .i64 r.case_, .int .i64 r.code, .int .i64 r.value] 27)).alloc (.cells #[.int .i64 0, .int .i64 0, .bool false, .nilIface] 31)).alloc (.cells #[.int .i64 r.value, .int .i64 r.case_, .bool false, .nilIface] 31)) q r from ans_at w q r)
  have HTX := Lib.hid (fun W h1 => Name_any q l W h1)
  have HR := Lib.hid h
  obtain ⟨hnz, hd, h9, h11, h8⟩ := h0
  have HNZ : RowKit.Hid (r.code ≠ 0) := Lib.hid hnz
  unfold reqV rsV
  unfold reqV at HTX
  clear h
  have b0 : (r.code == 0) = false := by simpa using hnz
  have b2 : (r.code == 9) = false := by simpa using h9
  have b3 : (r.code == 11) = false := by simpa using h11
  have b4 : (r.code == 8) = false := by simpa using h8
  clear hnz h9 h11 h8
  generalize nameS q l = tx at *
  by_cases h10 : r.code = 10
  case' pos =>
    have b1 : (r.code == 10) = true := by simp [h10]
    have b5 : (q.kind == 3) = false := by simp; omega
    clear hd h10 b0 b2 b3 b4
    have b0 : (r.code == 0) = false := by simpa using HNZ.out
  case' neg =>
    have b1 : (r.code == 10) = false := by simpa using h10
    clear hd h10
  all_goals
    go_enter Tryd.func6, Tryd.ntmps6
    go_upto_region 16 with (fail)
    have HBQ := Lib.hid HW.out.bq
    have HBR := Lib.hid HW.out.br
    have HB6 := Lib.hid HW.out.b6
    have HB := Lib.hid HW.out.below
    clear HW
    generalize ((((w.alloc (.cells #[.int .i64 q.kind, .int .i64 q.arg, .int .i64 q.value, .bool q.dflt, .slice q.A q.n q.c] 24)).alloc (.cells #[.int .i64 r.seq, .int .i64 r.case_, .int .i64 r.code, .int .i64 r.value] 27)).alloc (.cells #[.int .i64 0, .int .i64 0, .bool false, .nilIface] 31)).alloc (.cells #[.int .i64 r.value, .int .i64 r.case_, .bool false, .nilIface] 31)) = W0 at *
    obtain ⟨q0, q1, q2, q3, q4⟩ := reqBox HBQ.out
    obtain ⟨r0, r1, r2, r3⟩ := rsBox HBR.out
    have hl1 := HBQ.out.lt
    have hl2 := HBR.out.lt
    have hl6 := HB6.out.lt
    have HRW := Lib.hid (HR.out.below HB.out)
    have HDR := Lib.hid (Below.drewN' (Below.refl W0.heap.size W0) 1)
    go_region_held3 (fun w' => w'.cell? ⟨w.heap.size, 0, none⟩ = some (.int .i64 q.kind) ∧ w'.cell? ⟨w.heap.size, 1, none⟩ = some (.int .i64 q.arg) ∧ w'.cell? ⟨w.heap.size, 2, none⟩ = some (.int .i64 q.value) ∧ w'.cell? ⟨w.heap.size, 3, none⟩ = some (.bool q.dflt) ∧ w'.cell? ⟨w.heap.size, 4, none⟩ = some (.slice q.A q.n q.c) ∧ w'.cell? ⟨w.heap.size + 1, 0, none⟩ = some (.int .i64 r.seq) ∧ w'.cell? ⟨w.heap.size + 1, 2, none⟩ = some (.int .i64 r.code)) (first | go_keep | (simp only [hk1, hk2]; go_keep) | (simp only [kq, kr, hk1, hk2]; go_keep)) (first
      | (go_at_call 32; refine (HTX.out W0.drew (HRW.out.below HDR.out)).mono ?_; rintro e w1 ⟨rfl, hb1⟩; have hB1 : Below W0.heap.size W0 w1 := ⟨hb1.os, hb1.tape, hb1.output, hb1.size, hb1.block⟩; have hk1 := fun o => hB1.cell (p := ⟨w.heap.size, o, none⟩) hl1; have hk2 := fun o => hB1.cell (p := ⟨w.heap.size + 1, o, none⟩) hl2)
      | (go_at_call 30; refine (At_any tx r.seq r.code w1 HNZ.out).mono ?_; rintro e w2 ⟨v1, rfl, hc1, hb2⟩; have HC1 := Lib.hid hc1; have hB2 : Below W0.heap.size W0 w2 := hB1.trans (hb2.mono hB1.size); have hk1 := fun o => hB2.cell (p := ⟨w.heap.size, o, none⟩) hl1; have hk2 := fun o => hB2.cell (p := ⟨w.heap.size + 1, o, none⟩) hl2; clear hc1)
      | (go_at_call 29; refine (In_any w1.heap.size ⟨#[116, 104, 114, 101, 97, 100]⟩ t v1 _ _ w2 hb2.size HC1.out).mono ?_; rintro e w3 ⟨v2, rfl, hc2, hb3⟩; obtain ⟨ti, ui, rfl⟩ := hc2.iface; have HC2 := Lib.hid hc2; have hB3 : Below W0.heap.size W0 w3 := hB2.trans (hb3.mono hB2.size); have HB3 := Lib.hid hB3; have hk1 := fun o => hB3.cell (p := ⟨w.heap.size, o, none⟩) hl1; have hk2 := fun o => hB3.cell (p := ⟨w.heap.size + 1, o, none⟩) hl2; have hs3 := hB3.size; have kq := fun o v0 v1 v2 v3 => (((((Only.refl (w.heap.size + 1 + 1) w3).set_ 0 v0).set_ 1 v1).set_ 2 v2).set_ 3 v3).cell (p := ⟨w.heap.size, o, none⟩) (Nat.lt_of_lt_of_le hl1 hs3) (show w.heap.size ≠ w.heap.size + 1 + 1 by omega); have kr := fun o v0 v1 v2 v3 => (((((Only.refl (w.heap.size + 1 + 1) w3).set_ 0 v0).set_ 1 v1).set_ 2 v2).set_ 3 v3).cell (p := ⟨w.heap.size + 1, o, none⟩) (Nat.lt_of_lt_of_le hl2 hs3) (show w.heap.size + 1 ≠ w.heap.size + 1 + 1 by omega); have hb6 := HB6.out.below hB3 hl6; have f0 := hb6.frozen 0; have f1 := hb6.frozen 1; have f2 := hb6.frozen 2; have f3 := hb6.frozen 3; obtain ⟨o0, o1, o2, o3⟩ := outBox hb6; have hl6' : w.heap.size + 1 + 1 < w3.heap.size := hb6.lt; clear hc2 hb6))
    clear kq kr hk1 hk2 q0 q1 q2 q3 q4 r0 r1 r2 r3 o0 o1 o2 o3 f0 f1 f2 f3 hs3 hl6'
    go_wp2
    obtain ⟨hB, hL⟩ := out_put (HB6.out.below HB3.out hl6) 0 0 false (.iface ti ui)
    refine bodyPost_ret (v := outV 0 0 false (.iface ti ui)) (ret_cell (g := w.heap.size + 1 + 1) rfl rfl (out_load hB)) rfl ⟨⟨_, rfl, ?_⟩, (HB.out.trans (HB3.out.mono HB.out.size)).trans (hL _ (by omega))⟩
    have hX : Chain (w.heap.size + 3) w3 (.iface ti ui) [(thrS, t), (tx, r.seq)] r.code := Chain.mono (by have := hB1.size; omega) HC2.out
    exact Chain.mono (by omega) (Chain.set_ _ (by omega) (Chain.set_ _ (by omega) (Chain.set_ _ (by omega) (Chain.set_ _ (by omega) hX))))

end Go.Proofs.YtknlhkkpheahlaaDoor
