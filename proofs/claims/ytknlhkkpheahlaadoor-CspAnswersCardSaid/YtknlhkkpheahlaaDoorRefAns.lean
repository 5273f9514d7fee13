/- The document's Answer of csp, walked: it tells what the program's tells. -/
import Derived.Test.YtknlhkkpheahlaaDoorCsp5
import Derived.Test.YtknlhkkpheahlaaDoorRefNm
import Derived.Test.YtknlhkkpheahlaaDoorRef04b
namespace Go.Proofs.YtknlhkkpheahlaaDoor
open Go.RowKit Go.Sort

abbrev oV (v c : Int) (ok : Bool) (tx : ByteArray) (e : Int) : Value := .agg #[.int .i64 v, .int .i64 c, .bool ok, .string tx, .int .i64 e]
def oC (v c : Int) (ok : Bool) (tx : ByteArray) (e : Int) : List Value := [.int .i64 v, .int .i64 c, .bool ok, .string tx, .int .i64 e]
theorem o_load {w : World} {g : Nat} {v c : Int} {ok : Bool} {tx : ByteArray} {e : Int} (h : Blk w g 34 (oC v c ok tx e)) : (loadVar 34 ⟨g, 0, none⟩).run Tryd.prog w = .ok (oV v c ok tx e) w :=
  run_loadVar_row (P := Tryd.prog) w g 34 34 _ (0, 0) _ h Tryd.underlying34 rfl (by kernel_rfl)
theorem oBox {w : World} {g : Nat} {v c : Int} {ok : Bool} {tx : ByteArray} {e : Int} (h : Blk w g 34 (oC v c ok tx e)) :
    w.cell? ⟨g, 0, none⟩ = some (.int .i64 v) ∧ w.cell? ⟨g, 1, none⟩ = some (.int .i64 c) ∧ w.cell? ⟨g, 2, none⟩ = some (.bool ok) ∧ w.cell? ⟨g, 3, none⟩ = some (.string tx) ∧ w.cell? ⟨g, 4, none⟩ = some (.int .i64 e) :=
  ⟨h.cell rfl, h.cell rfl, h.cell rfl, h.cell rfl, h.cell rfl⟩
theorem o_put {w : World} {g : Nat} {v c : Int} {ok : Bool} {tx : ByteArray} {e : Int} (h : Blk w g 34 (oC v c ok tx e)) (v' c' : Int) (ok' : Bool) (tx' : ByteArray) (e' : Int) :
    Blk (((((w.setCell ⟨g, 0, none⟩ (.int .i64 v')).setCell ⟨g, 1, none⟩ (.int .i64 c')).setCell ⟨g, 2, none⟩ (.bool ok')).setCell ⟨g, 3, none⟩ (.string tx')).setCell ⟨g, 4, none⟩ (.int .i64 e')) g 34 (oC v' c' ok' tx' e') ∧
    ∀ B, B ≤ g → Below B w (((((w.setCell ⟨g, 0, none⟩ (.int .i64 v')).setCell ⟨g, 1, none⟩ (.int .i64 c')).setCell ⟨g, 2, none⟩ (.bool ok')).setCell ⟨g, 3, none⟩ (.string tx')).setCell ⟨g, 4, none⟩ (.int .i64 e')) :=
  ⟨((((h.set_ 0 (.int .i64 v')).set_ 1 (.int .i64 c')).set_ 2 (.bool ok')).set_ 3 (.string tx')).set_ 4 (.int .i64 e'),
   fun B hB => (((((Below.refl B w).setCell (p := ⟨g, 0, none⟩) hB _).setCell (p := ⟨g, 1, none⟩) hB _).setCell (p := ⟨g, 2, none⟩) hB _).setCell (p := ⟨g, 3, none⟩) hB _).setCell (p := ⟨g, 4, none⟩) hB _⟩

def ansX (t : Int) (q : Reqr) (l : List Cse) (r : Resr) : ByteArray := if ansQ q l r then ⟨#[]⟩ else chainS (ansCh t q l r) r.code
def ansE (q : Reqr) (l : List Cse) (r : Resr) : Int := if ansQ q l r then 0 else r.code

/-- How the call's own blocks lie. -/
structure RAnsAt (w W : World) (q : Reqr) (r : Resr) : Prop where
  bq : Blk W w.heap.size 24 q.cells
  br : Blk W (w.heap.size + 1) 27 r.cells
  b6 : Blk W (w.heap.size + 2) 34 (oC 0 0 false ⟨#[]⟩ 0)
  size : W.heap.size = w.heap.size + 3
  below : Below w.heap.size w W

theorem rans_at (w : World) (q : Reqr) (r : Resr) : RAnsAt w (((w.alloc (.cells q.cells.toArray 24)).alloc (.cells r.cells.toArray 27)).alloc (.cells (oC 0 0 false ⟨#[]⟩ 0).toArray 34)) q r :=
  ⟨((Blk.new w _ _).alloc _).alloc _, (blk_new (by simp)).alloc _, blk_new (by simp), by simp,
    (((Below.refl _ _).alloc (Nat.le_refl _) _).alloc (by simp) _).alloc (by simp; omega) _⟩

set_option maxHeartbeats 4000000 in
set_option maxRecDepth 100000 in
theorem rAns_ok (t : Int) (q : Reqr) (r : Resr) (w : World) (h0 : r.code = 0) :
    Calls Tryd.prog 7 #[.int .i64 t, reqV q, rsV r] w fun e w' => e = .returned (oV r.value r.case_ true ⟨#[]⟩ 0) ∧ Below w.heap.size w w' := by
  have b0 : (r.code == 0) = true := by simp [h0]
  unfold reqV rsV
  clear h0
  go_enter Tryd.func7, Tryd.ntmps7
  go_wp2
  refine bodyPost_ret (v := oV r.value r.case_ true ⟨#[]⟩ 0) (ret_cell (g := w.heap.size + 1 + 1) rfl rfl (o_load (blk_new (cs := oC r.value r.case_ true ⟨#[]⟩ 0) (by simp)))) rfl ⟨rfl, ?_⟩
  exact (((Below.refl _ _).alloc (Nat.le_refl _) _).alloc (by simp) _).alloc (by simp; omega) _

theorem way_true {code kind : Int} {rv : Bool} (h0 : (code == 0) = false) (h : (code == 0 || (code == 10 && kind == 3) || (code == 9 && rv)) = true) : ((code == 10) = true ∧ (kind == 3) = true) ∨ ((code == 10) = false ∧ (code == 9) = true ∧ rv = true) := by
  rw [h0] at h
  cases h10 : (code == 10) with
  | true =>
    have h10' : code = 10 := by simpa using h10
    left; refine ⟨rfl, ?_⟩
    subst h10'
    cases h3 : (kind == 3) with
    | true => rfl
    | false => rw [h3] at h; simp at h
  | false => right; rw [h10] at h; simp at h; exact ⟨rfl, by simpa using h.1, h.2⟩

theorem way_false {code kind : Int} {rv : Bool} (h : (code == 0 || (code == 10 && kind == 3) || (code == 9 && rv)) = false) : ((code == 10) = true ∧ (kind == 3) = false ∧ (code == 9) = false ∧ (code == 11) = false ∧ (code == 8) = false) ∨ ((code == 10) = false ∧ (code == 9) = false ∧ (code == 11) = false ∧ (code == 8) = false) ∨ ((code == 10) = false ∧ (code == 9) = true ∧ rv = false) ∨ ((code == 10) = false ∧ (code == 9) = false ∧ (code == 11) = true) ∨ ((code == 10) = false ∧ (code == 9) = false ∧ (code == 11) = false ∧ (code == 8) = true) := by
  simp only [Bool.or_eq_false_iff, Bool.and_eq_false_iff] at h
  obtain ⟨⟨_, h1⟩, h2⟩ := h
  by_cases h10 : code = 10
  · subst h10
    left
    rcases h1 with h1 | h1
    · simp at h1
    · exact ⟨rfl, h1, rfl, rfl, rfl⟩
  · right
    have e10 : (code == 10) = false := by simpa using h10
    by_cases h9 : code = 9
    · subst h9
      right; left
      rcases h2 with h2 | h2
      · simp at h2
      · exact ⟨rfl, rfl, h2⟩
    · have e9 : (code == 9) = false := by simpa using h9
      cases h11 : (code == 11) with
      | true => right; right; left; exact ⟨e10, e9, rfl⟩
      | false =>
        cases h8 : (code == 8) with
        | true => right; right; right; exact ⟨e10, e9, rfl, rfl⟩
        | false => left; exact ⟨e10, e9, rfl, rfl⟩

def RAnsPost (t : Int) (q : Reqr) (l : List Cse) (r : Resr) (w : World) (e : Ending) (w' : World) : Prop :=
  e = .returned (oV (ansV q l r) (ansC q l r) false (ansX t q l r) (ansE q l r)) ∧ Below w.heap.size w w'

theorem two_size {t s : Int} {nx : ByteArray} (ht : In64 t) (hs : In64 s) (hn : nx.size ≤ 4611686018427387000) : (sepS ⟨#[58, 32]⟩ [(thrS, t), (nx, s)]).size ≤ 4611686018427387904 := by
  have h1 := itoaS_size ht
  have h2 := itoaS_size hs
  have e1 : (⟨#[32]⟩ : ByteArray).size = 1 := rfl
  have e2 : (⟨#[58, 32]⟩ : ByteArray).size = 2 := rfl
  have e3 : thrS.size = 6 := rfl
  simp only [sepS, faultS, ByteArray.size_append, e1, e2, e3]
  omega

set_option maxHeartbeats 16000000 in
set_option maxRecDepth 100000 in
theorem rAns_rest (t kind arg value : Int) (dflt : Bool) (A : Option Addr) (n c : Nat) (l : List Cse) (r : Resr) (w : World) (hn0 : l.length = n) (hR : Rd w A (rows l)) (hl : HandlesOk l) (hn : n ≤ 1099511627776000) (hti : In64 t) (hsq : In64 r.seq) (hcd : In64 r.code) (h0 : r.code ≠ 0) :
    Calls Tryd.prog 7 #[.int .i64 t, reqV ⟨kind, arg, value, dflt, A, n, c⟩, rsV r] w (RAnsPost t ⟨kind, arg, value, dflt, A, n, c⟩ l r w) := by
  have HRD := Lib.hid hR
  have HN := Lib.hid hn0
  have HL := Lib.hid hl
  have HSZ := Lib.hid (textTo_size (nameS_size ⟨kind, arg, value, dflt, A, n, c⟩ l) hl)
  have HNM := Lib.hid (fun W h => rName_any ⟨kind, arg, value, dflt, A, n, c⟩ l W h)
  have b0 : (r.code == 0) = false := by simpa using h0
  have HN0 := Lib.hid h0
  have HTI := Lib.hid hti
  have HSQ := Lib.hid hsq
  have HCD := Lib.hid hcd
  have HREC : RowKit.Hid (recvB l r.case_ = (decide (0 ≤ r.case_) && decide (r.case_ < l.length) && (l.getD r.case_.toNat Cse.none).dir == 2)) := Lib.hid rfl
  have HQ : RowKit.Hid (ansQ ⟨kind, arg, value, dflt, A, n, c⟩ l r = (r.code == 0 || (r.code == 10 && kind == 3) || (r.code == 9 && recvB l r.case_))) := Lib.hid rfl
  have HAT : RowKit.Hid (ansT l r = ((r.code == 9 && !recvB l r.case_) || r.code == 11 || r.code == 8)) := Lib.hid rfl
  have HW := Lib.hid (show RAnsAt w (((w.alloc (.cells #[.int .i64 kind, .int .i64 arg, .int .i64 value, .bool dflt, .slice A n c] 24)).alloc (.cells #[.int .i64 r.seq, .int .i64 r.case_, .int .i64 r.code, .int .i64 r.value] 27)).alloc (.cells #[.int .i64 0, .int .i64 0, .bool false, .string ⟨#[]⟩, .int .i64 0] 34)) ⟨kind, arg, value, dflt, A, n, c⟩ r from rans_at w ⟨kind, arg, value, dflt, A, n, c⟩ r)
  clear hl hti hsq hcd h0 hR hn0
  unfold rsV
  generalize hrv : recvB l r.case_ = rv at *
  clear hrv
  generalize hnm : nameS ⟨kind, arg, value, dflt, A, n, c⟩ l = nm at *
  have HNMS := Lib.hid hnm
  clear hnm
  go_enter Tryd.func7, Tryd.ntmps7
  go_upto_region 4 with (fail)
  go_cut [8] (fun s8 wx => s8 = .bool rv ∧ wx = (((w.alloc (.cells #[.int .i64 kind, .int .i64 arg, .int .i64 value, .bool dflt, .slice A n c] 24)).alloc (.cells #[.int .i64 r.seq, .int .i64 r.case_, .int .i64 r.code, .int .i64 r.value] 27)).alloc (.cells #[.int .i64 0, .int .i64 0, .bool false, .string ⟨#[]⟩, .int .i64 0] 34)))
  case first =>
    rcases (show ¬ 0 ≤ r.case_ ∨ (0 ≤ r.case_ ∧ ¬ r.case_ < (n : Int)) ∨ (0 ≤ r.case_ ∧ r.case_ < (n : Int)) by omega) with c0 | ⟨c0, c1⟩ | ⟨c0, c1⟩
    case' inl => have HF := Lib.hid (show rv = false by rw [HREC.out]; simp [c0])
    case' inr.inl => have HF := Lib.hid (show rv = false by rw [HREC.out, HN.out]; simp [c1])
    case' inr.inr =>
      obtain ⟨b, o, rfl, hbl, hc⟩ := HRD.out.at_ (by rw [rows_length, HN.out]; exact Nat.mul_pos (by omega) (by decide))
      obtain ⟨z0, _, _⟩ := cse_cells hc (k := r.case_.toNat) (by rw [HN.out]; omega) rfl
      have HF := Lib.hid (show rv = ((l.getD r.case_.toNat Cse.none).dir == 2) by rw [HREC.out, HN.out]; simp [c0, c1])
      generalize (l.getD r.case_.toNat Cse.none).dir = dd at *
      have z0' : ∀ o1 o2 o3, (((w.alloc o1).alloc o2).alloc o3).cell? ⟨b, o + r.case_.toNat * 3, none⟩ = some (.int .i64 dd) := fun o1 o2 o3 => by
        rw [World.cell?_alloc_lt _ _ _ (by simp; omega), World.cell?_alloc_lt _ _ _ (by simp; omega), World.cell?_alloc_lt _ _ _ hbl]; exact z0
      clear z0 hc
    all_goals
      go_wp2_with fail
      go_meet
      exact ⟨by rw [HF.out], rfl⟩
  case rest =>
    obtain ⟨rfl, rfl⟩ := hcut
    generalize (((w.alloc (.cells #[.int .i64 kind, .int .i64 arg, .int .i64 value, .bool dflt, .slice A n c] 24)).alloc (.cells #[.int .i64 r.seq, .int .i64 r.case_, .int .i64 r.code, .int .i64 r.value] 27)).alloc (.cells #[.int .i64 0, .int .i64 0, .bool false, .string ⟨#[]⟩, .int .i64 0] 34)) = W0 at *
    obtain ⟨q0, q1, q2, q3, q4⟩ := reqBox HW.out.bq
    obtain ⟨r0, r1, r2, r3⟩ := rsBox HW.out.br
    simp only at q0 q1 q2 q3 q4
    have HRQ : RowKit.Hid (ReqAt W0 ⟨kind, arg, value, dflt, A, n, c⟩ l) := Lib.hid ⟨HN.out, HRD.out.below HW.out.below⟩
    have hl0 := HW.out.bq.lt
    have hl1 := HW.out.br.lt
    have hl6 := HW.out.b6.lt
    have HWS := HW.out.size
    have HWSH := Lib.hid HWS
    clear HWS
    cases hq : ansQ ⟨kind, arg, value, dflt, A, n, c⟩ l r
    case true =>
      have hqq := HQ.out
      rw [hq] at hqq
      have hway := way_true b0 hqq.symm
      have HQQ := Lib.hid hq
      obtain ⟨a0, a1, a2, a3, a4⟩ := oBox HW.out.b6
      have f0 := HW.out.b6.frozen 0
      have f1 := HW.out.b6.frozen 1
      have f2 := HW.out.b6.frozen 2
      have f3 := HW.out.b6.frozen 3
      have f4 := HW.out.b6.frozen 4
      clear hq hqq HQ HAT HREC
      have hpost : ∀ W', Below w.heap.size w W' → RAnsPost t ⟨kind, arg, value, dflt, A, n, c⟩ l r w (.returned (oV r.value r.case_ false ⟨#[]⟩ 0)) W' := fun W' hb => by
        unfold RAnsPost ansV ansC ansX ansE
        rw [HQQ.out]
        exact ⟨rfl, hb⟩
      have HPOST := Lib.hid hpost
      clear hpost
      rcases hway with ⟨b10, b3⟩ | ⟨b10, b9, rfl⟩
      all_goals
        go_wp2
        obtain ⟨hB, hL⟩ := o_put HW.out.b6 r.value r.case_ false ⟨#[]⟩ 0
        exact bodyPost_ret (v := oV r.value r.case_ false ⟨#[]⟩ 0) (ret_cell (g := w.heap.size + 1 + 1) rfl rfl (o_load hB)) rfl (HPOST.out _ (HW.out.below.trans (hL _ (by omega))))
    case false =>
      have hqq := HQ.out
      rw [hq] at hqq
      have hway := way_false hqq.symm
      have HQQ := Lib.hid hq
      clear hq hqq HQ HREC
      rcases hway with ⟨b10, b3, b9, b11, b8⟩ | ⟨b10, b9, b11, b8⟩ | ⟨b10, b9, rfl⟩ | ⟨b10, b9, b11⟩ | ⟨b10, b9, b11, b8⟩
      case' inl => have HTT := Lib.hid (show ansT l r = false by rw [HAT.out, b9, b11, b8]; rfl)
      case' inr.inl => have HTT := Lib.hid (show ansT l r = false by rw [HAT.out, b9, b11, b8]; rfl)
      case' inr.inr.inl => have HTT := Lib.hid (show ansT l r = true by rw [HAT.out, b9]; rfl)
      case' inr.inr.inr.inl => have HTT := Lib.hid (show ansT l r = true by rw [HAT.out, b9, b11]; rfl)
      case' inr.inr.inr.inr => have HTT := Lib.hid (show ansT l r = true by rw [HAT.out, b9, b11, b8]; rfl)
      case inl =>
        clear HAT
        go_upto_region 16 with (first | (go_at_call 33; refine (HNM.out _ HRQ.out).mono ?_; rintro e w1 ⟨rfl, hb1⟩; have k4 := (hb1.cell (p := ⟨w.heap.size, 4, none⟩) hl0).trans q4; have k1 := (hb1.cell (p := ⟨w.heap.size + 1, 1, none⟩) hl1).trans r1; have k0 := (hb1.cell (p := ⟨w.heap.size + 1, 0, none⟩) hl1).trans r0; have HB1 := Lib.hid hb1; have kk4 : ∀ o, (w1.alloc o).cell? ⟨w.heap.size, 4, none⟩ = some (.slice A n c) := fun o => (World.cell?_alloc_lt _ o ⟨w.heap.size, 4, none⟩ (Nat.lt_of_lt_of_le hl0 hb1.size)).trans k4; have kk1 : ∀ o, (w1.alloc o).cell? ⟨w.heap.size + 1, 1, none⟩ = some (.int .i64 r.case_) := fun o => (World.cell?_alloc_lt _ o ⟨w.heap.size + 1, 1, none⟩ (Nat.lt_of_lt_of_le hl1 hb1.size)).trans k1; have kk0 : ∀ o, (w1.alloc o).cell? ⟨w.heap.size + 1, 0, none⟩ = some (.int .i64 r.seq) := fun o => (World.cell?_alloc_lt _ o ⟨w.heap.size + 1, 0, none⟩ (Nat.lt_of_lt_of_le hl1 hb1.size)).trans k0; clear hb1 q0 q1 q2 q3 q4 r0 r1 r2 r3))
        have HBXr := Lib.hid (show Blk (w1.alloc (.cells #[.int .i64 0, .int .i64 0, .bool false, .string ⟨#[]⟩, .int .i64 r.code] 34)) w1.heap.size 34 (oC 0 0 false ⟨#[]⟩ r.code) from Blk.new w1 _ _)
        have s0 := kk0 (.cells #[.int .i64 0, .int .i64 0, .bool false, .string ⟨#[]⟩, .int .i64 r.code] 34)
        have hb2 : Below W0.heap.size W0 (w1.alloc (.cells #[.int .i64 0, .int .i64 0, .bool false, .string ⟨#[]⟩, .int .i64 r.code] 34)) := HB1.out.alloc HB1.out.size _
        have HBr := Lib.hid (HW.out.below.trans (hb2.mono HW.out.below.size))
        have HB6r := Lib.hid (HW.out.b6.below hb2 hl6)
        have HGG := Lib.hid (show w.heap.size + 3 ≤ w1.heap.size by have := HB1.out.size; have := HWSH.out; omega)
        have HNS := Lib.hid (show nm.size ≤ 4611686018427387000 by have := nameS_size ⟨kind, arg, value, dflt, A, n, c⟩ l; rw [HNMS.out] at this; omega)
        clear kk0 kk1 kk4 k0 k1 k4 hb2
        generalize w1.alloc (.cells #[.int .i64 0, .int .i64 0, .bool false, .string ⟨#[]⟩, .int .i64 r.code] 34) = w2 at *
        generalize w1.heap.size = gg at *
        clear HB1
        go_wp2_with fail
        have hb4 := (Below.refl w2.heap.size w2).alloc (Nat.le_refl _) (.cells #[.string ⟨#[116, 104, 114, 101, 97, 100]⟩, .int .i64 t, .string nm, .int .i64 r.seq] 69)
        have HRDL := Lib.hid (show Rd (w2.alloc (.cells #[.string ⟨#[116, 104, 114, 101, 97, 100]⟩, .int .i64 t, .string nm, .int .i64 r.seq] 69)) (some ⟨w2.heap.size, 0, none⟩) (rows [(thrS, t), (nm, r.seq)]) from (Blk.new w2 69 [.string ⟨#[116, 104, 114, 101, 97, 100]⟩, .int .i64 t, .string nm, .int .i64 r.seq]).rd)
        refine (rText_any _ 2 [(thrS, t), (nm, r.seq)] r.code _ HRDL.out (by intro a ha; simp at ha; rcases ha with rfl | rfl; exact HTI.out; exact HSQ.out) HCD.out (two_size HTI.out HSQ.out HNS.out) (by unfold maxLen; simp)).mono ?_
        rintro e w5 ⟨rfl, hb5⟩
        have hb45 := hb4.trans (hb5.mono hb4.size)
        have HB5 := Lib.hid (HBr.out.trans (hb45.mono HBr.out.size))
        have hx5 := HBXr.out.below hb45 HBXr.out.lt
        have h65 := HB6r.out.below hb45 HB6r.out.lt
        have HX5 := Lib.hid (hx5.set_ 3 (.string (chainS [(thrS, t), (nm, r.seq)] r.code)))
        have HK5 := Lib.hid (show Below (w.heap.size + 3) w5 (w5.setCell ⟨gg, 3, none⟩ (.string (chainS [(thrS, t), (nm, r.seq)] r.code))) from (Below.refl _ w5).setCell (p := ⟨gg, 3, none⟩) (by have := HGG.out; omega) _)
        have HX6 := Lib.hid (h65.below HK5.out (by omega))
        have xf := hx5.frozen 3
        obtain ⟨x0, x1, x2, x3, x4⟩ := oBox hx5
        obtain ⟨y0, y1, y2, y3, y4⟩ := oBox (show Blk _ gg 34 (oC 0 0 false (chainS [(thrS, t), (nm, r.seq)] r.code) r.code) from HX5.out)
        obtain ⟨a0, a1, a2, a3, a4⟩ := oBox HX6.out
        obtain ⟨b0', b1', b2', b3', b4'⟩ := oBox h65
        have f0 := HX6.out.frozen 0
        have f1 := HX6.out.frozen 1
        have f2 := HX6.out.frozen 2
        have f3 := HX6.out.frozen 3
        have f4 := HX6.out.frozen 4
        have HPO := Lib.hid (show ∀ W', Below w.heap.size w W' → RAnsPost t ⟨kind, arg, value, dflt, A, n, c⟩ l r w (.returned (oV 0 0 false (chainS [(thrS, t), (nm, r.seq)] r.code) r.code)) W' from fun W' hb => by
          unfold RAnsPost ansV ansC ansX ansE ansCh
          rw [HQQ.out, HTT.out, show nameS ⟨kind, arg, value, dflt, A, n, c⟩ l = nm from HNMS.out]
          exact ⟨rfl, hb⟩)
        clear hb4 hb5 hb45 hx5 h65
        generalize chainS [(thrS, t), (nm, r.seq)] r.code = tx at *
        go_wp2
        obtain ⟨hB, hL⟩ := o_put HX6.out 0 0 false tx r.code
        exact bodyPost_ret (v := oV 0 0 false tx r.code) (ret_cell (g := w.heap.size + 1 + 1) rfl rfl (o_load hB)) rfl (HPO.out _ ((HB5.out.trans (HK5.out.mono (by omega))).trans (hL _ (by omega))))
      case inr.inl =>
        clear HAT
        go_upto_region 16 with (first | (go_at_call 33; refine (HNM.out _ HRQ.out).mono ?_; rintro e w1 ⟨rfl, hb1⟩; have k4 := (hb1.cell (p := ⟨w.heap.size, 4, none⟩) hl0).trans q4; have k1 := (hb1.cell (p := ⟨w.heap.size + 1, 1, none⟩) hl1).trans r1; have k0 := (hb1.cell (p := ⟨w.heap.size + 1, 0, none⟩) hl1).trans r0; have HB1 := Lib.hid hb1; have kk4 : ∀ o, (w1.alloc o).cell? ⟨w.heap.size, 4, none⟩ = some (.slice A n c) := fun o => (World.cell?_alloc_lt _ o ⟨w.heap.size, 4, none⟩ (Nat.lt_of_lt_of_le hl0 hb1.size)).trans k4; have kk1 : ∀ o, (w1.alloc o).cell? ⟨w.heap.size + 1, 1, none⟩ = some (.int .i64 r.case_) := fun o => (World.cell?_alloc_lt _ o ⟨w.heap.size + 1, 1, none⟩ (Nat.lt_of_lt_of_le hl1 hb1.size)).trans k1; have kk0 : ∀ o, (w1.alloc o).cell? ⟨w.heap.size + 1, 0, none⟩ = some (.int .i64 r.seq) := fun o => (World.cell?_alloc_lt _ o ⟨w.heap.size + 1, 0, none⟩ (Nat.lt_of_lt_of_le hl1 hb1.size)).trans k0; clear hb1 q0 q1 q2 q3 q4 r0 r1 r2 r3))
        have HBXr := Lib.hid (show Blk (w1.alloc (.cells #[.int .i64 0, .int .i64 0, .bool false, .string ⟨#[]⟩, .int .i64 r.code] 34)) w1.heap.size 34 (oC 0 0 false ⟨#[]⟩ r.code) from Blk.new w1 _ _)
        have s0 := kk0 (.cells #[.int .i64 0, .int .i64 0, .bool false, .string ⟨#[]⟩, .int .i64 r.code] 34)
        have hb2 : Below W0.heap.size W0 (w1.alloc (.cells #[.int .i64 0, .int .i64 0, .bool false, .string ⟨#[]⟩, .int .i64 r.code] 34)) := HB1.out.alloc HB1.out.size _
        have HBr := Lib.hid (HW.out.below.trans (hb2.mono HW.out.below.size))
        have HB6r := Lib.hid (HW.out.b6.below hb2 hl6)
        have HGG := Lib.hid (show w.heap.size + 3 ≤ w1.heap.size by have := HB1.out.size; have := HWSH.out; omega)
        have HNS := Lib.hid (show nm.size ≤ 4611686018427387000 by have := nameS_size ⟨kind, arg, value, dflt, A, n, c⟩ l; rw [HNMS.out] at this; omega)
        clear kk0 kk1 kk4 k0 k1 k4 hb2
        generalize w1.alloc (.cells #[.int .i64 0, .int .i64 0, .bool false, .string ⟨#[]⟩, .int .i64 r.code] 34) = w2 at *
        generalize w1.heap.size = gg at *
        clear HB1
        go_wp2_with fail
        have hb4 := (Below.refl w2.heap.size w2).alloc (Nat.le_refl _) (.cells #[.string ⟨#[116, 104, 114, 101, 97, 100]⟩, .int .i64 t, .string nm, .int .i64 r.seq] 69)
        have HRDL := Lib.hid (show Rd (w2.alloc (.cells #[.string ⟨#[116, 104, 114, 101, 97, 100]⟩, .int .i64 t, .string nm, .int .i64 r.seq] 69)) (some ⟨w2.heap.size, 0, none⟩) (rows [(thrS, t), (nm, r.seq)]) from (Blk.new w2 69 [.string ⟨#[116, 104, 114, 101, 97, 100]⟩, .int .i64 t, .string nm, .int .i64 r.seq]).rd)
        refine (rText_any _ 2 [(thrS, t), (nm, r.seq)] r.code _ HRDL.out (by intro a ha; simp at ha; rcases ha with rfl | rfl; exact HTI.out; exact HSQ.out) HCD.out (two_size HTI.out HSQ.out HNS.out) (by unfold maxLen; simp)).mono ?_
        rintro e w5 ⟨rfl, hb5⟩
        have hb45 := hb4.trans (hb5.mono hb4.size)
        have HB5 := Lib.hid (HBr.out.trans (hb45.mono HBr.out.size))
        have hx5 := HBXr.out.below hb45 HBXr.out.lt
        have h65 := HB6r.out.below hb45 HB6r.out.lt
        have HX5 := Lib.hid (hx5.set_ 3 (.string (chainS [(thrS, t), (nm, r.seq)] r.code)))
        have HK5 := Lib.hid (show Below (w.heap.size + 3) w5 (w5.setCell ⟨gg, 3, none⟩ (.string (chainS [(thrS, t), (nm, r.seq)] r.code))) from (Below.refl _ w5).setCell (p := ⟨gg, 3, none⟩) (by have := HGG.out; omega) _)
        have HX6 := Lib.hid (h65.below HK5.out (by omega))
        have xf := hx5.frozen 3
        obtain ⟨x0, x1, x2, x3, x4⟩ := oBox hx5
        obtain ⟨y0, y1, y2, y3, y4⟩ := oBox (show Blk _ gg 34 (oC 0 0 false (chainS [(thrS, t), (nm, r.seq)] r.code) r.code) from HX5.out)
        obtain ⟨a0, a1, a2, a3, a4⟩ := oBox HX6.out
        obtain ⟨b0', b1', b2', b3', b4'⟩ := oBox h65
        have f0 := HX6.out.frozen 0
        have f1 := HX6.out.frozen 1
        have f2 := HX6.out.frozen 2
        have f3 := HX6.out.frozen 3
        have f4 := HX6.out.frozen 4
        have HPO := Lib.hid (show ∀ W', Below w.heap.size w W' → RAnsPost t ⟨kind, arg, value, dflt, A, n, c⟩ l r w (.returned (oV 0 0 false (chainS [(thrS, t), (nm, r.seq)] r.code) r.code)) W' from fun W' hb => by
          unfold RAnsPost ansV ansC ansX ansE ansCh
          rw [HQQ.out, HTT.out, show nameS ⟨kind, arg, value, dflt, A, n, c⟩ l = nm from HNMS.out]
          exact ⟨rfl, hb⟩)
        clear hb4 hb5 hb45 hx5 h65
        generalize chainS [(thrS, t), (nm, r.seq)] r.code = tx at *
        go_wp2
        obtain ⟨hB, hL⟩ := o_put HX6.out 0 0 false tx r.code
        exact bodyPost_ret (v := oV 0 0 false tx r.code) (ret_cell (g := w.heap.size + 1 + 1) rfl rfl (o_load hB)) rfl (HPO.out _ ((HB5.out.trans (HK5.out.mono (by omega))).trans (hL _ (by omega))))
      all_goals
        clear HAT
        go_wp2_with (first | (go_at_call 33; refine (HNM.out _ HRQ.out).mono ?_; rintro e w1 ⟨rfl, hb1⟩; have k4 := (hb1.cell (p := ⟨w.heap.size, 4, none⟩) hl0).trans q4; have k1 := (hb1.cell (p := ⟨w.heap.size + 1, 1, none⟩) hl1).trans r1; have k0 := (hb1.cell (p := ⟨w.heap.size + 1, 0, none⟩) hl1).trans r0; have HB1 := Lib.hid hb1; have kk4 : ∀ o, (w1.alloc o).cell? ⟨w.heap.size, 4, none⟩ = some (.slice A n c) := fun o => (World.cell?_alloc_lt _ o ⟨w.heap.size, 4, none⟩ (Nat.lt_of_lt_of_le hl0 hb1.size)).trans k4; have kk1 : ∀ o, (w1.alloc o).cell? ⟨w.heap.size + 1, 1, none⟩ = some (.int .i64 r.case_) := fun o => (World.cell?_alloc_lt _ o ⟨w.heap.size + 1, 1, none⟩ (Nat.lt_of_lt_of_le hl1 hb1.size)).trans k1; have kk0 : ∀ o, (w1.alloc o).cell? ⟨w.heap.size + 1, 0, none⟩ = some (.int .i64 r.seq) := fun o => (World.cell?_alloc_lt _ o ⟨w.heap.size + 1, 0, none⟩ (Nat.lt_of_lt_of_le hl1 hb1.size)).trans k0; clear hb1 q0 q1 q2 q3 q4 r0 r1 r2 r3))
        have HTX : RowKit.Hid (textS ⟨kind, arg, value, dflt, A, n, c⟩ l = textTo nm l n) := Lib.hid (by unfold textS; rw [HNMS.out, HN.out])
        have HBX := Lib.hid (show Blk (w1.alloc (.cells #[.int .i64 0, .int .i64 r.case_, .bool false, .string ⟨#[]⟩, .int .i64 r.code] 34)) w1.heap.size 34 (oC 0 r.case_ false ⟨#[]⟩ r.code) from Blk.new w1 _ _)
        have s0 := kk0 (.cells #[.int .i64 0, .int .i64 r.case_, .bool false, .string ⟨#[]⟩, .int .i64 r.code] 34)
        have hb2 : Below W0.heap.size W0 (w1.alloc (.cells #[.int .i64 0, .int .i64 r.case_, .bool false, .string ⟨#[]⟩, .int .i64 r.code] 34)) := HB1.out.alloc HB1.out.size _
        have HB2 := Lib.hid hb2
        have HGG := Lib.hid (show w.heap.size + 3 ≤ w1.heap.size by have := HB1.out.size; have := HWSH.out; omega)
        have HB6 := Lib.hid (HW.out.b6.below hb2 hl6)
        have hgl : W0.heap.size ≤ w1.heap.size := HB1.out.size
        clear kk0 kk1 kk4 k0 k1 k4 hb2
        generalize w1.alloc (.cells #[.int .i64 0, .int .i64 r.case_, .bool false, .string ⟨#[]⟩, .int .i64 r.code] 34) = w2 at *
        generalize hgg : w1.heap.size = gg at *
        clear hgg HB1
        go_loopg [9, 82] n (fun g s i wr => ∃ (k : Nat), k ≤ n ∧ g = n - k ∧ i = .int .i64 k ∧ s = .string (textTo nm l k) ∧ Below w2.heap.size w2 wr)
        case atStart => exact ⟨0, Nat.zero_le _, rfl, rfl, rfl, Below.refl _ _⟩
        case round =>
          obtain ⟨k, hk, hg, rfl, rfl, hb⟩ := hrel
          have HG := Lib.hid hg
          have HB := Lib.hid hb
          clear hg hb
          by_cases hlt : k < n
          · have hkl : k < l.length := by rw [HN.out]; exact hlt
            obtain ⟨b, o, rfl, hbl, hc⟩ := HRD.out.at_ (by rw [rows_length]; exact Nat.mul_pos (by omega) (by decide))
            have hcr : ∀ j v, (rows l)[j]? = some v → wr.cell? ⟨b, o + j, none⟩ = some v := fun j v hj => by
              have h1 := HW.out.below.cell (p := ⟨b, o + j, none⟩) hbl
              have h2 := HB2.out.cell (p := ⟨b, o + j, none⟩) (Nat.lt_of_lt_of_le hbl HW.out.below.size)
              have h3 := HB.out.cell (p := ⟨b, o + j, none⟩) (Nat.lt_of_lt_of_le (Nat.lt_of_lt_of_le hbl HW.out.below.size) HB2.out.size)
              rw [h3, h2, h1]; exact hc j v hj
            obtain ⟨c0, c1, c2⟩ := cse_cells hcr hkl rfl
            have hin : In64 (l.getD k Cse.none).handle := HL.out _ (by simp [List.getD, hkl])
            have HSTEP : RowKit.Hid (textTo nm l (k + 1) = textTo nm l k ++ (⟨#[32]⟩ ++ itoaS (l.getD k Cse.none).handle)) := Lib.hid rfl
            have hz := itoaS_size hin
            have HI := Lib.hid (fun W => rItoa_any _ hin W)
            have hsz := HSZ.out k (by rw [HN.out]; omega)
            generalize l.getD k Cse.none = x at *
            generalize textTo nm l k = tk at *
            generalize itoaS x.handle = z at *
            clear hc hcr hkl hin
            have q1 : (0 : Int) ≤ (k : Int) := by omega
            have q2 : (k : Int) < (n : Int) := by omega
            have d1 : ¬ 9223372036854775807 < tk.size + 1 := by omega
            have d2 : ¬ 9223372036854775807 < tk.size + 1 + z.size := by omega
            have HB3 := Lib.hid (show Below w2.heap.size w2 (wr.alloc (.cells #[.int .i64 x.dir, .int .i64 x.handle, .int .i64 x.value] 66)) from HB.out.alloc HB.out.size _)
            go_wp2_with (first | (go_at_call 34; refine (HI.out _).mono ?_; rintro e w4 ⟨rfl, hb4⟩; have HB4 := Lib.hid (HB3.out.trans (hb4.mono HB3.out.size)); clear hb4))
            go_roundg (n - (k + 1))
            case measure => rw [HG.out]; omega
            case rel => exact ⟨k + 1, by omega, rfl, by go_num, by rw [HSTEP.out, ← ByteArray.append_assoc], HB4.out⟩
          · obtain rfl : n = k := by omega
            have HBr := Lib.hid (HW.out.below.trans ((HB2.out.trans (HB.out.mono HB2.out.size)).mono HW.out.below.size))
            have HBXr := Lib.hid (HBX.out.below HB.out HBX.out.lt)
            have HB6r := Lib.hid (HB6.out.below HB.out HB6.out.lt)
            have s1 := (HB.out.cell (p := ⟨w.heap.size + 1, 0, none⟩) (Nat.lt_of_lt_of_le hl1 HB2.out.size)).trans s0
            have HNS := Lib.hid (show (textTo nm l n).size ≤ 4611686018427387000 by have := HSZ.out n (by rw [HN.out]; omega); omega)
            have HTX2 := Lib.hid (show textS ⟨kind, arg, value, dflt, A, n, c⟩ l = textTo nm l n from HTX.out)
            generalize textTo nm l n = nx at *
            clear s0 HTX
            go_wp2_with fail
            have hb4 := (Below.refl wr.heap.size wr).alloc (Nat.le_refl _) (.cells #[.string ⟨#[116, 104, 114, 101, 97, 100]⟩, .int .i64 t, .string nx, .int .i64 r.seq] 69)
            have HRDL := Lib.hid (show Rd (wr.alloc (.cells #[.string ⟨#[116, 104, 114, 101, 97, 100]⟩, .int .i64 t, .string nx, .int .i64 r.seq] 69)) (some ⟨wr.heap.size, 0, none⟩) (rows [(thrS, t), (nx, r.seq)]) from (Blk.new wr 69 [.string ⟨#[116, 104, 114, 101, 97, 100]⟩, .int .i64 t, .string nx, .int .i64 r.seq]).rd)
            refine (rText_any _ 2 [(thrS, t), (nx, r.seq)] r.code _ HRDL.out (by intro a ha; simp at ha; rcases ha with rfl | rfl; exact HTI.out; exact HSQ.out) HCD.out (two_size HTI.out HSQ.out HNS.out) (by unfold maxLen; simp)).mono ?_
            rintro e w5 ⟨rfl, hb5⟩
            have hb45 := hb4.trans (hb5.mono hb4.size)
            have HB5 := Lib.hid (HBr.out.trans (hb45.mono HBr.out.size))
            have hx5 := HBXr.out.below hb45 HBXr.out.lt
            have h65 := HB6r.out.below hb45 HB6r.out.lt
            have HX5 := Lib.hid (hx5.set_ 3 (.string (chainS [(thrS, t), (nx, r.seq)] r.code)))
            have HK5 := Lib.hid (show Below (w.heap.size + 3) w5 (w5.setCell ⟨gg, 3, none⟩ (.string (chainS [(thrS, t), (nx, r.seq)] r.code))) from (Below.refl _ w5).setCell (p := ⟨gg, 3, none⟩) (by have := HGG.out; omega) _)
            have HX6 := Lib.hid (h65.below HK5.out (by omega))
            have xf := hx5.frozen 3
            obtain ⟨x0, x1, x2, x3, x4⟩ := oBox hx5
            obtain ⟨y0, y1, y2, y3, y4⟩ := oBox (show Blk _ gg 34 (oC 0 r.case_ false (chainS [(thrS, t), (nx, r.seq)] r.code) r.code) from HX5.out)
            obtain ⟨a0, a1, a2, a3, a4⟩ := oBox HX6.out
            obtain ⟨b0', b1', b2', b3', b4'⟩ := oBox h65
            have f0 := HX6.out.frozen 0
            have f1 := HX6.out.frozen 1
            have f2 := HX6.out.frozen 2
            have f3 := HX6.out.frozen 3
            have f4 := HX6.out.frozen 4
            have HPO := Lib.hid (show ∀ W', Below w.heap.size w W' → RAnsPost t ⟨kind, arg, value, dflt, A, n, c⟩ l r w (.returned (oV 0 r.case_ false (chainS [(thrS, t), (nx, r.seq)] r.code) r.code)) W' from fun W' hb => by
              unfold RAnsPost ansV ansC ansX ansE ansCh
              rw [HQQ.out, HTT.out, show textS ⟨kind, arg, value, dflt, A, n, c⟩ l = nx from HTX2.out]
              exact ⟨rfl, hb⟩)
            clear hb4 hb5 hb45 hx5 h65
            generalize chainS [(thrS, t), (nx, r.seq)] r.code = tx at *
            go_wp2
            obtain ⟨hB, hL⟩ := o_put HX6.out 0 r.case_ false tx r.code
            exact bodyPost_ret (v := oV 0 r.case_ false tx r.code) (ret_cell (g := w.heap.size + 1 + 1) rfl rfl (o_load hB)) rfl (HPO.out _ ((HB5.out.trans (HK5.out.mono (by omega))).trans (hL _ (by omega))))

theorem rAnswer_Q (t : Int) (q : Reqr) (l : List Cse) (r : Resr) (w : World) (h : ReqAt w q l) (hl : HandlesOk l) (hn : l.length ≤ 1099511627776000) (hti : In64 t) (hsq : In64 r.seq) (hcd : In64 r.code) (hQ : ansQ q l r = true) :
    Calls Tryd.prog 7 #[.int .i64 t, reqV q, rsV r] w fun e w' => e = .returned (oV (ansV q l r) (ansC q l r) (r.code == 0) ⟨#[]⟩ 0) ∧ Below w.heap.size w w' := by
  by_cases h0 : r.code = 0
  · refine (rAns_ok t q r w h0).mono fun e w' ⟨he, hb⟩ => ⟨?_, hb⟩
    rw [he, ansV, ansC, hQ, h0]; rfl
  · obtain ⟨kind, arg, value, dflt, A, n, c⟩ := q
    have hlen : l.length = n := h.len
    have e0 : (r.code == 0) = false := by simpa using h0
    refine (rAns_rest t kind arg value dflt A n c l r w hlen h.rd hl (by omega) hti hsq hcd h0).mono fun e w' hp => ?_
    obtain ⟨he, hb⟩ := hp
    refine ⟨?_, hb⟩
    rw [he, ansX, ansE, hQ, e0]; rfl

theorem rAnswer_N (t : Int) (q : Reqr) (l : List Cse) (r : Resr) (w : World) (h : ReqAt w q l) (hl : HandlesOk l) (hn : l.length ≤ 1099511627776000) (hti : In64 t) (hsq : In64 r.seq) (hcd : In64 r.code) (hQ : ansQ q l r = false) :
    Calls Tryd.prog 7 #[.int .i64 t, reqV q, rsV r] w fun e w' => e = .returned (oV 0 (ansC q l r) false (chainS (ansCh t q l r) r.code) r.code) ∧ Below w.heap.size w w' := by
  have h0 : r.code ≠ 0 := by intro h0; simp [ansQ, h0] at hQ
  obtain ⟨kind, arg, value, dflt, A, n, c⟩ := q
  have hlen : l.length = n := h.len
  refine (rAns_rest t kind arg value dflt A n c l r w hlen h.rd hl (by omega) hti hsq hcd h0).mono fun e w' hp => ?_
  obtain ⟨he, hb⟩ := hp
  refine ⟨?_, hb⟩
  rw [he, ansX, ansE, ansV, hQ]; rfl

theorem Answer_Q (t : Int) (q : Reqr) (l : List Cse) (r : Resr) (w : World) (h : ReqAt w q l) (hl : HandlesOk l) (hn : l.length ≤ 1099511627776000) (ht : TabT w) (hQ : ansQ q l r = true) :
    Calls Tryd.prog 6 #[.int .i64 t, reqV q, rsV r] w fun e w' => e = .returned (outV (ansV q l r) (ansC q l r) (r.code == 0) .nilIface) ∧ Below w.heap.size w w' :=
  (Answer_any t q l r w h hl hn ht).mono fun _ _ ⟨_, he, h1, _, hb⟩ => ⟨by rw [he, h1 hQ], hb⟩
theorem Answer_N (t : Int) (q : Reqr) (l : List Cse) (r : Resr) (w : World) (h : ReqAt w q l) (hl : HandlesOk l) (hn : l.length ≤ 1099511627776000) (ht : TabT w) (hQ : ansQ q l r = false) :
    Calls Tryd.prog 6 #[.int .i64 t, reqV q, rsV r] w fun e w' => ∃ g, e = .returned (outV 0 (ansC q l r) false (faultV g)) ∧ Chain w.heap.size w' (faultV g) (ansCh t q l r) r.code ∧ Below w.heap.size w w' :=
  (Answer_any t q l r w h hl hn ht).mono fun _ _ ⟨err, he, _, h2, hb⟩ => by
    have hc := h2 hQ
    have h0 : (r.code == 0) = false := by
      cases h0 : (r.code == 0) with
      | false => rfl
      | true => simp [ansQ, h0] at hQ
    obtain ⟨g, v', hg, hr⟩ := hc
    subst hg
    refine ⟨g, ?_, ⟨g, v', rfl, hr⟩, hb⟩
    rw [he, ansV, hQ, h0]; rfl

/-- No call is named 'thread'. -/
def NotThr (s : ByteArray) : Prop := s = ⟨#[]⟩ ∨ s.data[0]? = some 32 ∨ ∃ c, s.data[1]? = some c ∧ c ≠ 104
theorem NotThr.ne {s : ByteArray} (h : NotThr s) : ¬ s = thrS := by
  rintro rfl
  rcases h with h | h | ⟨c, h, hc⟩
  · exact absurd h (by decide +kernel)
  · exact absurd h (by decide +kernel)
  · have : thrS.data[1]? = some 104 := by decide +kernel
    rw [this] at h; injection h with h; exact hc h.symm
theorem NotThr.app {s : ByteArray} (h : NotThr s) (z : ByteArray) : NotThr (s ++ (⟨#[32]⟩ ++ z)) := by
  rcases h with rfl | h | ⟨c, h, hc⟩
  · right; left
    rw [empty_append, ByteArray.data_append, Array.getElem?_append_left (by decide)]; rfl
  · right; left
    have hlt := (Array.getElem?_eq_some_iff.1 h).1
    rw [ByteArray.data_append, Array.getElem?_append_left hlt]; exact h
  · right; right; refine ⟨c, ?_, hc⟩
    have hlt := (Array.getElem?_eq_some_iff.1 h).1
    rw [ByteArray.data_append, Array.getElem?_append_left hlt]; exact h
theorem name_not (q : Reqr) (l : List Cse) : NotThr (nameS q l) := by
  unfold nameS namedS selS tryS
  repeat' split
  all_goals first
    | exact .inl rfl
    | exact .inr (.inr ⟨_, (by decide +kernel : _ = some _), by decide⟩)
    | exact .inl (by decide +kernel)
    | (right; right; cases q.dflt <;> exact ⟨_, rfl, by decide⟩)
theorem text_not (q : Reqr) (l : List Cse) : NotThr (textS q l) := by
  unfold textS
  generalize l.length = n
  induction n with
  | zero => exact name_not q l
  | succ n ih => exact ih.app _
end Go.Proofs.YtknlhkkpheahlaaDoor
