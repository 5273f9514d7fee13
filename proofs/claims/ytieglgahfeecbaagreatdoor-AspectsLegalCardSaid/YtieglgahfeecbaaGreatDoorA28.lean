/- From a law's contract to its row: the arguments read as they did where nothing that was there has turned; how arguments are opened. -/
import Derived.Test.YtieglgahfeecbaaGreatDoorA27
import Derived.Test.YtieglgahfeecbaaGreatDoorA13
import Derived.Test.YtieglgahfeecbaaGreatDoorA14
import Derived.Test.YtieglgahfeecbaaGreatDoorA4
import Derived.Test.YtieglgahfeecbaaGreatDoorRows
import Derived.Test.YtieglgahfeecbaaGreatDoorA1
import Derived.ProofKit
import Derived.OpenShut
import Derived.Deep.Slices
import Derived.Deep.Fields
namespace Go.Proofs.YtieglgahfeecbaaGreatDoor
open Go.RowKit Go.Sort Go.Maps Go.WideMaps
attribute [local go_sem ↓] Go.wp_at_zero Go.wp_at_succ

/-- Handed back: whether some order explains a history. -/
def RetLegal (c : Cfg) (PS : List NtP) (w : World) (e : Ending) (w' : World) : Prop :=
  ∃ b : Bool, e = .returned (.tuple #[.bool b, .int .i64 (checkS c PS)]) ∧ (b = true ↔ checkS c PS = 0 ∧ legalB c PS) ∧ Below w.heap.size w w'

set_option maxHeartbeats 4000000 in
set_option maxRecDepth 100000 in
theorem hCheck_any (c : Cfg) (NA : Option Addr) (nc : Nat) (NS : List Nte) (PS : List NtP) (w : World) (hc : CfgIn w c) (hN : NtsIn w NA NS PS) :
    Calls Tryz.prog 9 #[cfgV c, .slice NA NS.length nc] w fun e w' => e = .returned (.int .i64 (checkS c PS)) ∧ Below w.heap.size w w' := by
  cases h : chkB c
  · have e : checkS c PS = 1 := by unfold checkS; rw [if_pos h]
    rw [e]
    exact hCheck_no c _ w hc h
  · exact hCheck_yes c NA nc NS PS w hc h hN

set_option maxHeartbeats 16000000 in
set_option maxRecDepth 100000 in
theorem hLegal_any (c : Cfg) (NA : Option Addr) (nc : Nat) (NS : List Nte) (PS : List NtP) (w : World) (hok : ObjOk c) (hc : CfgIn w c) (hN : NtsIn w NA NS PS) (h6 : c.threads ≤ 6) (h60 : NS.length ≤ 60) (hz : Tz16 w) (hfw : (startO c).length ≤ 1048576) :
    Calls Tryz.prog 7 #[cfgV c, .slice NA NS.length nc] w (RetLegal c PS w) := by
  have HCF := Lib.hid hc
  have HN := Lib.hid hN
  have HCK := Lib.hid (fun W (hb : Below w.heap.size w W) => hCheck_any c NA nc NS PS W (hc.below hb) (hN.below hb))
  have HZ := Lib.hid hz
  have HOK := Lib.hid hok
  by_cases hck : checkS c PS = 0
  · rw [hck] at HCK
    have hnat := hN.at_ hck
    have hthr := hN.thr hck
    have hnn0 := nN_start (c := c) (PS := PS) (by rw [hN.len]; exact h60) hck
    have HFR := Lib.hid (fun (gF mb : Nat) (s : Str) (W : World) (h1 : SrAt c gF NA nc mb NS PS W) (h2 : StAt W s (stS c)) (h3 : TrAt W mb 0 (fun _ => false)) => from_any c gF NA nc mb NS PS hok hthr h6 h60 (leftM PS (stS c)) (stS c) (Nat.le_refl _) (stOk_start c PS) s W 0 (fun _ => false) h1 h2 h3 (fun _ _ _ h => by cases h) (by omega))
    have HNA := Lib.hid hnat
    have HCE := Lib.hid hck
    have hcb := (checkS_ok hck).1
    have hth := chk_kind hcb
    obtain ⟨t, ht⟩ : ∃ t : Nat, c.threads = t := ⟨_, (Int.toNat_of_nonneg (by omega)).symm⟩
    have HTT := Lib.hid ht
    have t2 : t ≤ 64 := by omega
    have hmk := fun W => make_open t (by omega) W
    have HMW := Lib.hid (fun W => blk_new (w := W) (g := W.heap.size) (cs := rows (List.replicate t Opr.none)) (t := 63) rfl)
    have HST := Lib.hid (fun W (hW : CfgIn W c) => hok.start W hW)
    have HBIG := Lib.hid hok.big0
    have HSL := Lib.hid hfw
    have hmm := @run_makeMap Tryz.prog
    clear hnn0 hnat hthr hcb hth ht hc hN hz hok hck h6 hfw
    unfold cfgV at HCK HST ⊢
    simp only [HTT.out] at HST
    go_enter Tryz.func7, Tryz.ntmps7
    go_upto_region 4 with (go_at_call 9
                           refine (HCK.out _ ((Below.refl w.heap.size w).alloc (Nat.le_refl _) _)).mono ?_
                           rintro e w1 ⟨rfl, hb1⟩
                           obtain ⟨c0, c1, c2, c3, c4, c5, c6, c7, c8, c9, c10⟩ := ((BoxC.new w c).below hb1).all
                           rw [HTT.out] at c1
                           have HBX := Lib.hid ((BoxC.new w c).below hb1)
                           have HB1 := Lib.hid (((Below.refl w.heap.size w).alloc (Nat.le_refl _) _).trans (hb1.mono (by simp)))
                           have HL1 := Lib.hid (show w.heap.size < w1.heap.size by have := hb1.size; simp at this; omega)
                           clear hb1)
    go_upto_region 5 with (fail)
    have HBB : RowKit.Hid (Below w1.heap.size w1 ((w1.alloc (.map #[] 0)).alloc (.cells #[.int .i64 c.kind, .int .i64 t, .int .i64 c.chans, .int .i64 c.cap, .int .i64 c.nodes, .int .i64 c.retire, .int .i64 c.patience, .int .i64 c.tags, .int .i64 c.seqs, .int .i64 c.gens, .slice c.sa c.start.length c.sc, .slice NA NS.length nc, .map (some w1.heap.size)] 51))) := Lib.hid (below_two w1 _ _)
    have HSB : RowKit.Hid (Blk ((w1.alloc (.map #[] 0)).alloc (.cells #[.int .i64 c.kind, .int .i64 t, .int .i64 c.chans, .int .i64 c.cap, .int .i64 c.nodes, .int .i64 c.retire, .int .i64 c.patience, .int .i64 c.tags, .int .i64 c.seqs, .int .i64 c.gens, .slice c.sa c.start.length c.sc, .slice NA NS.length nc, .map (some w1.heap.size)] 51)) (w1.heap.size + 1) 51 (srchCells c NA NS.length nc w1.heap.size)) := Lib.hid (by
      have h := Blk.new (w1.alloc (.map #[] 0)) 51 (srchCells c NA NS.length nc w1.heap.size)
      rw [show (w1.alloc (.map #[] 0)).heap.size = w1.heap.size + 1 by simp] at h
      unfold srchCells cfgCells at h ⊢
      simp only [HTT.out] at h ⊢
      exact h)
    have HTR : RowKit.Hid (TrAt ((w1.alloc (.map #[] 0)).alloc (.cells #[.int .i64 c.kind, .int .i64 t, .int .i64 c.chans, .int .i64 c.cap, .int .i64 c.nodes, .int .i64 c.retire, .int .i64 c.patience, .int .i64 c.tags, .int .i64 c.seqs, .int .i64 c.gens, .slice c.sa c.start.length c.sc, .slice NA NS.length nc, .map (some w1.heap.size)] 51)) w1.heap.size 0 (fun _ => false)) := Lib.hid ⟨.map [], (World.ownsMap_made w1 Tryz.prog _ _).alloc _, namesIs_empty⟩
    have HGT : RowKit.Hid (w1.heap.size + 1 < ((w1.alloc (.map #[] 0)).alloc (.cells #[.int .i64 c.kind, .int .i64 t, .int .i64 c.chans, .int .i64 c.cap, .int .i64 c.nodes, .int .i64 c.retire, .int .i64 c.patience, .int .i64 c.tags, .int .i64 c.seqs, .int .i64 c.gens, .slice c.sa c.start.length c.sc, .slice NA NS.length nc, .map (some w1.heap.size)] 51)).heap.size) := Lib.hid (by simp)
    clear c0 c1 c2 c3 c4 c5 c6 c7 c8 c9 c10 hmm
    generalize ((w1.alloc (.map #[] 0)).alloc (.cells #[.int .i64 c.kind, .int .i64 t, .int .i64 c.chans, .int .i64 c.cap, .int .i64 c.nodes, .int .i64 c.retire, .int .i64 c.patience, .int .i64 c.tags, .int .i64 c.seqs, .int .i64 c.gens, .slice c.sa c.start.length c.sc, .slice NA NS.length nc, .map (some w1.heap.size)] 51)) = W0 at *
    have HSR := Lib.hid (show SrAt c (w1.heap.size + 1) NA nc w1.heap.size NS PS W0 from ⟨HCF.out.below (HB1.out.trans (HBB.out.mono HB1.out.size)), HSB.out, HNA.out.below (HB1.out.trans (HBB.out.mono HB1.out.size)), HZ.out.below (HB1.out.trans (HBB.out.mono HB1.out.size))⟩)
    obtain ⟨c0, c1, c2, c3, c4, c5, c6, c7, c8, c9, c10⟩ := (HBX.out.below HBB.out).all
    rw [HTT.out] at c1
    have hw0 : w.heap.size < W0.heap.size := by have := HL1.out; have := HGT.out; omega
    have HSC : RowKit.Hid (∀ W', Below W0.heap.size W0 W' → (fun w' => w'.cell? ⟨w.heap.size, 0, none⟩ = some (.int .i64 c.kind) ∧ w'.cell? ⟨w.heap.size, 1, none⟩ = some (.int .i64 (t : Int)) ∧ w'.cell? ⟨w.heap.size, 2, none⟩ = some (.int .i64 c.chans) ∧ w'.cell? ⟨w.heap.size, 3, none⟩ = some (.int .i64 c.cap) ∧ w'.cell? ⟨w.heap.size, 4, none⟩ = some (.int .i64 c.nodes) ∧ w'.cell? ⟨w.heap.size, 5, none⟩ = some (.int .i64 c.retire) ∧ w'.cell? ⟨w.heap.size, 6, none⟩ = some (.int .i64 c.patience) ∧ w'.cell? ⟨w.heap.size, 7, none⟩ = some (.int .i64 c.tags) ∧ w'.cell? ⟨w.heap.size, 8, none⟩ = some (.int .i64 c.seqs) ∧ w'.cell? ⟨w.heap.size, 9, none⟩ = some (.int .i64 c.gens) ∧ w'.cell? ⟨w.heap.size, 10, none⟩ = some (.slice c.sa c.start.length c.sc)) W') := Lib.hid (fun W' hb => ⟨(hb.cell (p := ⟨w.heap.size, 0, none⟩) hw0).trans c0, (hb.cell (p := ⟨w.heap.size, 1, none⟩) hw0).trans c1, (hb.cell (p := ⟨w.heap.size, 2, none⟩) hw0).trans c2, (hb.cell (p := ⟨w.heap.size, 3, none⟩) hw0).trans c3, (hb.cell (p := ⟨w.heap.size, 4, none⟩) hw0).trans c4, (hb.cell (p := ⟨w.heap.size, 5, none⟩) hw0).trans c5, (hb.cell (p := ⟨w.heap.size, 6, none⟩) hw0).trans c6, (hb.cell (p := ⟨w.heap.size, 7, none⟩) hw0).trans c7, (hb.cell (p := ⟨w.heap.size, 8, none⟩) hw0).trans c8, (hb.cell (p := ⟨w.heap.size, 9, none⟩) hw0).trans c9, (hb.cell (p := ⟨w.heap.size, 10, none⟩) hw0).trans c10⟩)
    refine wp_region_held_drew (S := fun w' => w'.cell? ⟨w.heap.size, 0, none⟩ = some (.int .i64 c.kind) ∧ w'.cell? ⟨w.heap.size, 1, none⟩ = some (.int .i64 (t : Int)) ∧ w'.cell? ⟨w.heap.size, 2, none⟩ = some (.int .i64 c.chans) ∧ w'.cell? ⟨w.heap.size, 3, none⟩ = some (.int .i64 c.cap) ∧ w'.cell? ⟨w.heap.size, 4, none⟩ = some (.int .i64 c.nodes) ∧ w'.cell? ⟨w.heap.size, 5, none⟩ = some (.int .i64 c.retire) ∧ w'.cell? ⟨w.heap.size, 6, none⟩ = some (.int .i64 c.patience) ∧ w'.cell? ⟨w.heap.size, 7, none⟩ = some (.int .i64 c.tags) ∧ w'.cell? ⟨w.heap.size, 8, none⟩ = some (.int .i64 c.seqs) ∧ w'.cell? ⟨w.heap.size, 9, none⟩ = some (.int .i64 c.gens) ∧ w'.cell? ⟨w.heap.size, 10, none⟩ = some (.slice c.sa c.start.length c.sc)) (by kernel_rfl) (HSC.out _ (Below.refl W0.heap.size W0).drew) (fun hHeld => ?_)
    refine wpAnyH_take (i := 0) (v := .pointer (some ⟨w1.heap.size + 1, 0, none⟩)) rfl (by kernel_rfl) (by kernel_rfl) (by kernel_rfl) (fun _ _ _ h => h) (Or.inl ⟨by rfl, fun w hSw => by go_simp⟩) hHeld ?_
    try simp only [Act.put, List.getElem_toArray, List.getElem_cons_zero, List.setIfInBounds_toArray, List.set_cons_zero, List.set_cons_succ]
    refine wpAnyH_take (i := 1) (v := .agg #[.int .i64 c.kind, .int .i64 (t : Int), .int .i64 c.chans, .int .i64 c.cap, .int .i64 c.nodes, .int .i64 c.retire, .int .i64 c.patience, .int .i64 c.tags, .int .i64 c.seqs, .int .i64 c.gens, .slice c.sa c.start.length c.sc]) rfl (by kernel_rfl) (by kernel_rfl) (by kernel_rfl) (fun _ _ _ h => h) (Or.inl ⟨by rfl, fun w hSw => by obtain ⟨h0, h1, h2, h3, h4, h5, h6, h7, h8, h9, h10⟩ := hSw; go_simp⟩) hHeld ?_
    try simp only [Act.put, List.getElem_toArray, List.getElem_cons_succ, List.getElem_cons_zero, List.setIfInBounds_toArray, List.set_cons_zero, List.set_cons_succ]
    refine wpAnyH_take (i := 3) (v := .pointer (some ⟨w.heap.size, 1, none⟩)) rfl (by kernel_rfl) (by kernel_rfl) (by kernel_rfl) (fun _ _ _ h => h) (Or.inl ⟨by rfl, fun w hSw => by go_simp⟩) hHeld ?_
    try simp only [Act.put, List.getElem_toArray, List.getElem_cons_succ, List.getElem_cons_zero, List.setIfInBounds_toArray, List.set_cons_zero, List.set_cons_succ]
    refine wpAnyH_take (i := 4) (v := .int .i64 (t : Int)) rfl (by kernel_rfl) (by kernel_rfl) (by kernel_rfl) (fun _ _ _ h => h) (Or.inl ⟨by rfl, fun w hSw => by obtain ⟨h0, h1, h2, h3, h4, h5, h6, h7, h8, h9, h10⟩ := hSw; go_simp⟩) hHeld ?_
    try simp only [Act.put, List.getElem_toArray, List.getElem_cons_succ, List.getElem_cons_zero, List.setIfInBounds_toArray, List.set_cons_zero, List.set_cons_succ]
    refine wpAnyH_ready (rs := [2, 5]) (by kernel_rfl) (by simp) ?_
    refine AllReadyH.cons rfl (fun K hK => ?_) (AllReadyH.cons rfl (fun K hK => ?_) AllReadyH.nil)
    · rw [if_pos (by rfl)]
      simp only [List.getElem_toArray, List.getElem_cons_succ, List.getElem_cons_zero]
      go_simp
      refine (HST.out W0.drew HSR.out.cfg).mono ?_
      rintro er w2 ⟨A, cc, rfl, ho2, hb2'⟩
      have hb2 : Below W0.heap.size W0 w2 := ⟨hb2'.os, hb2'.tape, hb2'.output, hb2'.size, hb2'.block⟩
      have HCC := Lib.hid (own_le ho2)
      have HO2 := Lib.hid (own_rd ho2)
      have HB2 := Lib.hid hb2
      have hsc := HSC.out _ hb2
      clear ho2 hb2' hb2
      go_wp2_with fail
      refine hK.out _ _ hsc (fun hHeld => ?_)
      clear hK K hsc
      try simp only [Act.put, List.getElem_toArray, List.getElem_cons_succ, List.getElem_cons_zero, List.setIfInBounds_toArray, List.set_cons_zero, List.set_cons_succ]
      refine wpAnyH_ready (rs := [5]) (by kernel_rfl) (by simp) ?_
      refine AllReadyH.cons rfl (fun K hK => ?_) AllReadyH.nil
      rw [if_pos (by rfl)]
      simp only [List.getElem_toArray, List.getElem_cons_succ, List.getElem_cons_zero]
      go_simp
      have HA3 := Lib.hid ((Below.refl w2.heap.size w2).alloc (Nat.le_refl _) (.cells (rows (List.replicate t Opr.none)).toArray 63))
      have HR3 := Lib.hid (HMW.out w2).rd
      refine hK.out _ _ (HSC.out _ (HB2.out.trans (HA3.out.mono HB2.out.size))) (fun hHeld => ?_)
      clear hK K
      try simp only [Act.put, List.getElem_toArray, List.getElem_cons_succ, List.getElem_cons_zero, List.setIfInBounds_toArray, List.set_cons_zero, List.set_cons_succ]
      have HB3 := Lib.hid ((HB1.out.trans (HBB.out.mono HB1.out.size)).trans ((HB2.out.trans (HA3.out.mono HB2.out.size)).mono (HB1.out.trans (HBB.out.mono HB1.out.size)).size))
      have HG3 := Lib.hid (HB2.out.trans (HA3.out.mono HB2.out.size))
      generalize (w2.alloc (.cells (rows (List.replicate t Opr.none)).toArray 63)) = W3 at *
      have HSF : RowKit.Hid (∀ W', W3.grownBy W' (some w1.heap.size) → (fun w' => w'.cell? ⟨w.heap.size, 0, none⟩ = some (.int .i64 c.kind) ∧ w'.cell? ⟨w.heap.size, 1, none⟩ = some (.int .i64 (t : Int)) ∧ w'.cell? ⟨w.heap.size, 2, none⟩ = some (.int .i64 c.chans) ∧ w'.cell? ⟨w.heap.size, 3, none⟩ = some (.int .i64 c.cap) ∧ w'.cell? ⟨w.heap.size, 4, none⟩ = some (.int .i64 c.nodes) ∧ w'.cell? ⟨w.heap.size, 5, none⟩ = some (.int .i64 c.retire) ∧ w'.cell? ⟨w.heap.size, 6, none⟩ = some (.int .i64 c.patience) ∧ w'.cell? ⟨w.heap.size, 7, none⟩ = some (.int .i64 c.tags) ∧ w'.cell? ⟨w.heap.size, 8, none⟩ = some (.int .i64 c.seqs) ∧ w'.cell? ⟨w.heap.size, 9, none⟩ = some (.int .i64 c.gens) ∧ w'.cell? ⟨w.heap.size, 10, none⟩ = some (.slice c.sa c.start.length c.sc)) W') := Lib.hid (fun W' hg => by
        have hx := HSC.out _ HG3.out
        have hlt : w.heap.size < W3.heap.size := Nat.lt_of_lt_of_le hw0 HG3.out.size
        have hne : some w.heap.size ≠ some w1.heap.size := by intro e; injection e with e; have := HL1.out; omega
        simp only [grown_cell hg (p := ⟨w.heap.size, _, none⟩) hlt hne]
        exact hx)
      refine wpAnyH_take (i := 6) (v := .agg #[.int .i64 0, .slice A (startO c).length cc, .slice (some ⟨w2.heap.size, 0, none⟩) t t]) rfl (by kernel_rfl) (by kernel_rfl) (by kernel_rfl) (fun _ _ _ h => h) (Or.inl ⟨by rfl, fun w hSw => by go_simp⟩) hHeld ?_
      try simp only [Act.put, List.getElem_toArray, List.getElem_cons_succ, List.getElem_cons_zero, List.setIfInBounds_toArray, List.set_cons_zero, List.set_cons_succ]
      refine wpAnyH_ready (rs := [7]) (by kernel_rfl) (by simp) ?_
      refine AllReadyH.cons rfl (fun K hK => ?_) AllReadyH.nil
      clear hHeld
      rw [if_pos (by rfl)]
      simp only [List.getElem_toArray, List.getElem_cons_succ, List.getElem_cons_zero]
      go_simp
      refine (HFR.out (w1.heap.size + 1) w1.heap.size ⟨0, A, (startO c).length, cc, some ⟨w2.heap.size, 0, none⟩, t, t⟩ _ (HSR.out.below HG3.out) (StAt_start HTT.out rfl HSL.out HCC.out (by omega) (HO2.out.below HA3.out) HBIG.out (HR3.out)) (HTR.out.below HG3.out)).mono ?_
      rintro er w5 ⟨r, T', rfl, hr5, _, _, hg5⟩
      have hbf := HB3.out.trans ((Below.refl w.heap.size _).grown hg5 HB3.out.size (fun k hk => by injection hk with hk; have := HL1.out; omega))
      have hsc := HSF.out _ hg5
      go_wp2_with fail
      refine hK.out _ _ hsc (fun hHeld => ?_)
      clear hK K
      try simp only [Act.put, List.getElem_toArray, List.getElem_cons_succ, List.getElem_cons_zero, List.setIfInBounds_toArray, List.set_cons_zero, List.set_cons_succ]
      refine wpAnyH_take (i := 8) (v := .bool r) rfl (by kernel_rfl) (by kernel_rfl) (by kernel_rfl) (fun _ _ _ h => h) (Or.inl ⟨by rfl, fun w hSw => by go_simp⟩) hHeld ?_
      try simp only [Act.put, List.getElem_toArray, List.getElem_cons_succ, List.getElem_cons_zero, List.setIfInBounds_toArray, List.set_cons_zero, List.set_cons_succ]
      refine wpAnyH_take (i := 9) (v := .int .i64 0) rfl (by kernel_rfl) (by kernel_rfl) (by kernel_rfl) (fun _ _ _ h => h) (Or.inl ⟨by rfl, fun w hSw => by go_simp⟩) hHeld ?_
      try simp only [Act.put, List.getElem_toArray, List.getElem_cons_succ, List.getElem_cons_zero, List.setIfInBounds_toArray, List.set_cons_zero, List.set_cons_succ]
      clear hHeld
      refine wpAnyH_done (by kernel_rfl) ?_ _
      go_wp2_with fail
      go_ret2
      exact ⟨r, by rw [HCE.out]; rfl, hr5.trans ⟨fun h => ⟨HCE.out, h⟩, fun h => h.2⟩, hbf⟩
    · rw [if_pos (by rfl)]
      simp only [List.getElem_toArray, List.getElem_cons_succ, List.getElem_cons_zero]
      go_simp
      have HA1 := Lib.hid ((Below.refl W0.heap.size W0).alloc (Nat.le_refl _) (.cells (rows (List.replicate t Opr.none)).toArray 63))
      have HR1 := Lib.hid (HMW.out W0)
      refine hK.out _ _ (HSC.out _ HA1.out.drew) (fun hHeld => ?_)
      clear hK K
      try simp only [Act.put, List.getElem_toArray, List.getElem_cons_succ, List.getElem_cons_zero, List.setIfInBounds_toArray, List.set_cons_zero, List.set_cons_succ]
      refine wpAnyH_ready (rs := [2]) (by kernel_rfl) (by simp) ?_
      refine AllReadyH.cons rfl (fun K hK => ?_) AllReadyH.nil
      rw [if_pos (by rfl)]
      simp only [List.getElem_toArray, List.getElem_cons_succ, List.getElem_cons_zero]
      go_simp
      refine (HST.out (W0.alloc (.cells (rows (List.replicate t Opr.none)).toArray 63)).drew (HSR.out.cfg.below HA1.out.drew)).mono ?_
      rintro er W3 ⟨A, cc, rfl, ho2, hb2'⟩
      have hb2 : Below (W0.alloc (.cells (rows (List.replicate t Opr.none)).toArray 63)).heap.size (W0.alloc (.cells (rows (List.replicate t Opr.none)).toArray 63)) W3 := ⟨hb2'.os, hb2'.tape, hb2'.output, hb2'.size, hb2'.block⟩
      have HCC := Lib.hid (own_le ho2)
      have HO2 := Lib.hid (own_rd ho2)
      have HR3 := Lib.hid ((HR1.out.below hb2 HR1.out.lt).rd)
      have HG3 := Lib.hid (HA1.out.trans (hb2.mono HA1.out.size))
      clear ho2 hb2' hb2
      go_wp2_with fail
      refine hK.out _ _ (HSC.out _ HG3.out) (fun hHeld => ?_)
      clear hK K
      try simp only [Act.put, List.getElem_toArray, List.getElem_cons_succ, List.getElem_cons_zero, List.setIfInBounds_toArray, List.set_cons_zero, List.set_cons_succ]
      have HB3 := Lib.hid ((HB1.out.trans (HBB.out.mono HB1.out.size)).trans (HG3.out.mono (HB1.out.trans (HBB.out.mono HB1.out.size)).size))
      have HSF : RowKit.Hid (∀ W', W3.grownBy W' (some w1.heap.size) → (fun w' => w'.cell? ⟨w.heap.size, 0, none⟩ = some (.int .i64 c.kind) ∧ w'.cell? ⟨w.heap.size, 1, none⟩ = some (.int .i64 (t : Int)) ∧ w'.cell? ⟨w.heap.size, 2, none⟩ = some (.int .i64 c.chans) ∧ w'.cell? ⟨w.heap.size, 3, none⟩ = some (.int .i64 c.cap) ∧ w'.cell? ⟨w.heap.size, 4, none⟩ = some (.int .i64 c.nodes) ∧ w'.cell? ⟨w.heap.size, 5, none⟩ = some (.int .i64 c.retire) ∧ w'.cell? ⟨w.heap.size, 6, none⟩ = some (.int .i64 c.patience) ∧ w'.cell? ⟨w.heap.size, 7, none⟩ = some (.int .i64 c.tags) ∧ w'.cell? ⟨w.heap.size, 8, none⟩ = some (.int .i64 c.seqs) ∧ w'.cell? ⟨w.heap.size, 9, none⟩ = some (.int .i64 c.gens) ∧ w'.cell? ⟨w.heap.size, 10, none⟩ = some (.slice c.sa c.start.length c.sc)) W') := Lib.hid (fun W' hg => by
        have hx := HSC.out _ HG3.out
        have hlt : w.heap.size < W3.heap.size := Nat.lt_of_lt_of_le hw0 HG3.out.size
        have hne : some w.heap.size ≠ some w1.heap.size := by intro e; injection e with e; have := HL1.out; omega
        simp only [grown_cell hg (p := ⟨w.heap.size, _, none⟩) hlt hne]
        exact hx)
      refine wpAnyH_take (i := 6) (v := .agg #[.int .i64 0, .slice A (startO c).length cc, .slice (some ⟨W0.heap.size, 0, none⟩) t t]) rfl (by kernel_rfl) (by kernel_rfl) (by kernel_rfl) (fun _ _ _ h => h) (Or.inl ⟨by rfl, fun w hSw => by go_simp⟩) hHeld ?_
      try simp only [Act.put, List.getElem_toArray, List.getElem_cons_succ, List.getElem_cons_zero, List.setIfInBounds_toArray, List.set_cons_zero, List.set_cons_succ]
      refine wpAnyH_ready (rs := [7]) (by kernel_rfl) (by simp) ?_
      refine AllReadyH.cons rfl (fun K hK => ?_) AllReadyH.nil
      clear hHeld
      rw [if_pos (by rfl)]
      simp only [List.getElem_toArray, List.getElem_cons_succ, List.getElem_cons_zero]
      go_simp
      refine (HFR.out (w1.heap.size + 1) w1.heap.size ⟨0, A, (startO c).length, cc, some ⟨W0.heap.size, 0, none⟩, t, t⟩ _ (HSR.out.below HG3.out) (StAt_start HTT.out rfl HSL.out HCC.out (by omega) (HO2.out) HBIG.out (HR3.out)) (HTR.out.below HG3.out)).mono ?_
      rintro er w5 ⟨r, T', rfl, hr5, _, _, hg5⟩
      have hbf := HB3.out.trans ((Below.refl w.heap.size _).grown hg5 HB3.out.size (fun k hk => by injection hk with hk; have := HL1.out; omega))
      have hsc := HSF.out _ hg5
      go_wp2_with fail
      refine hK.out _ _ hsc (fun hHeld => ?_)
      clear hK K
      try simp only [Act.put, List.getElem_toArray, List.getElem_cons_succ, List.getElem_cons_zero, List.setIfInBounds_toArray, List.set_cons_zero, List.set_cons_succ]
      refine wpAnyH_take (i := 8) (v := .bool r) rfl (by kernel_rfl) (by kernel_rfl) (by kernel_rfl) (fun _ _ _ h => h) (Or.inl ⟨by rfl, fun w hSw => by go_simp⟩) hHeld ?_
      try simp only [Act.put, List.getElem_toArray, List.getElem_cons_succ, List.getElem_cons_zero, List.setIfInBounds_toArray, List.set_cons_zero, List.set_cons_succ]
      refine wpAnyH_take (i := 9) (v := .int .i64 0) rfl (by kernel_rfl) (by kernel_rfl) (by kernel_rfl) (fun _ _ _ h => h) (Or.inl ⟨by rfl, fun w hSw => by go_simp⟩) hHeld ?_
      try simp only [Act.put, List.getElem_toArray, List.getElem_cons_succ, List.getElem_cons_zero, List.setIfInBounds_toArray, List.set_cons_zero, List.set_cons_succ]
      clear hHeld
      refine wpAnyH_done (by kernel_rfl) ?_ _
      go_wp2_with fail
      go_ret2
      exact ⟨r, by rw [HCE.out]; rfl, hr5.trans ⟨fun h => ⟨HCE.out, h⟩, fun h => h.2⟩, hbf⟩
  · have HE := Lib.hid hck
    have hne : (checkS c PS == 0) = false := by simpa using hck
    generalize hE : checkS c PS = E at *
    clear hc hN hz hok hck
    unfold cfgV at HCK ⊢
    go_enter Tryz.func7, Tryz.ntmps7
    go_wp2_with (refine (HCK.out _ ?_).mono ?_
                 · exact (Below.refl w.heap.size w).alloc (Nat.le_refl _) _
                 rintro e w1 ⟨rfl, hb1⟩
                 have HB1 := Lib.hid (((Below.refl w.heap.size w).alloc (Nat.le_refl _) _).trans (hb1.mono (by simp)))
                 clear hb1)
    go_ret2
    exact ⟨false, by rw [hE]; rfl, ⟨fun h => absurd h (by decide), fun h => absurd (hE.symm.trans h.1) HE.out⟩, HB1.out⟩

end Go.Proofs.YtieglgahfeecbaaGreatDoor

namespace Go.Proofs.YtieglgahfeecbaaGreatDoor
open Go.RowKit Go.Sort

set_option maxHeartbeats 400000 in
theorem settled1_any (x : Kall) (w : World) : Calls Tryz.prog 58 #[kallV x] w fun e w' => e = .returned (.bool x.opn) ∧ Below w.heap.size w w' := by
  unfold kallV
  go_enter Tryz.func58, Tryz.ntmps58
  go_wp2
  go_ret
  exact ⟨rfl, (Below.refl _ _).alloc (Nat.le_refl _) _⟩
theorem settled1_enters : Enters 58 := enters_of Tryz.func58 (by kernel_rfl) (by kernel_rfl)

set_option maxHeartbeats 1000000 in
theorem Settled_any (A : Option Addr) (c : Nat) (ns : List Nte) (w : World) (hl : ns.length ≤ 1048576) (hok : ThreadsOk ns) (hR : Rd w A (rows ns)) :
    Calls Tryz.prog 30 #[.slice A ns.length c] w fun e w' => e = .returned (.bool (!(callsS ns).any Kall.opn)) ∧ Below w.heap.size w w' := by
  have HC := Lib.hid (calls_any A c ns w hl hok hR)
  have hcl := calls_len ns
  clear hok hR
  generalize ns.length = nn at *
  generalize callsS ns = l at *
  have HH := Lib.hid (fun A1 c1 W h1 h2 => HasK_any A1 c1 l 58 #[] Kall.opn W (by unfold maxLen; omega) h1 settled1_enters h2)
  go_enter Tryz.func30, Tryz.ntmps30
  go_wp2_with fail
  refine HC.out.mono ?_
  rintro e w1 ⟨L, cl, rfl, hrd, _, _, hb1⟩
  have HHH := Lib.hid (HH.out L cl w1 hrd (fun x _ w' _ => settled1_any x w'))
  clear hrd HH
  go_wp2_with fail
  refine HHH.out.mono ?_
  rintro e w2 ⟨rfl, hb2⟩
  go_wp2
  go_ret
  exact ⟨rfl, hb1.trans (hb2.mono hb1.size)⟩

end Go.Proofs.YtieglgahfeecbaaGreatDoor

namespace Go.Proofs.YtieglgahfeecbaaGreatDoor
open Go.RowKit Go.Sort

abbrev zN : Value := .agg #[.int .i64 0, .int .i64 0, .int .i64 0, .int .i64 0, .int .i64 0, .int .i64 0, .int .i64 0, .bool false, .slice none 0 0, .int .i64 0, .int .i64 0, .int .i64 0, .int .i64 0]
theorem Nte_info : (Tryz.prog.info? 44).map (fun i => (i.zero, i.size, i.bytes)) = some (some zN, 13, 120) := by kernel_rfl

theorem own_blkW {w : World} {g base : Nat} {e : TypeId} {s n : Nat} {cs : List Value} (h : Blk w g e cs) (hb : base ≤ g) (hl : cs.length = n * s) (hn : n ≤ maxLen) : w.ownsRow base e s (.slice (some ⟨g, 0, none⟩) n n) n cs :=
  ⟨hl, .inr ⟨g, n, _, rfl, hb, h, Nat.le_refl _, hn, by simpa using hl, by rw [← hl]; simp⟩⟩

/-- A call's note, and its return's. -/
def noteC (th seq kind val : Int) : Nte := ⟨1, th, seq, 0, kind, 0, val, false, .none, 0, 0, 0, 0, 0, 0⟩
def noteR (th seq kind val value : Int) : Nte := ⟨3, th, seq, 0, kind, 0, val, false, .none, 0, 0, seq, 0, 0, value⟩

def RetNotes (l : List Nte) (w : World) (e : Ending) (w' : World) : Prop :=
  ∃ A c, e = .returned (.slice A l.length c) ∧ w'.ownsRow w.heap.size 44 13 (.slice A l.length c) l.length (rows l) ∧ Below w.heap.size w w'

set_option maxHeartbeats 400000 in
set_option maxRecDepth 100000 in
theorem call43_any (th seq kind val value : Int) (w : World) :
    Calls Tryz.prog 25 #[.int .i64 th, .int .i64 seq, .agg #[.int .i64 kind, .int .i64 0, .int .i64 val, .bool false, .slice none 0 0], .int .i64 value] w (RetNotes [noteC th seq kind val, noteR th seq kind val value] w) := by
  go_enter Tryz.func25, Tryz.ntmps25
  go_wp2
  go_ret
  refine ⟨some ⟨w.heap.size + 1, 0, none⟩, 2, rfl, ?_, ((Below.refl _ _).alloc (Nat.le_refl _) _).alloc (by simp) _⟩
  exact own_blkW (cs := rows [noteC th seq kind val, noteR th seq kind val value]) (blk_new (by simp)) (by omega) rfl (by simp [maxLen])

def exN : List Nte := [noteC 0 1 8 1, noteR 0 1 8 1 0, noteC 0 2 8 2, noteR 0 2 8 2 0, noteC 1 1 9 0, noteR 1 1 9 0 2]
theorem exN_passed : passedS (callsS exN) = [⟨1, 2⟩] := by decide +kernel
theorem exN_wrong : wrongS (callsS exN) = true := by decide +kernel
theorem exN_wrong4 : wrongS (callsS (exN.take 4)) = false := by decide +kernel
theorem exN_under : underS (callsS exN) = [1] := by decide +kernel
theorem exN_values : valuesS (callsS exN) = [1, 2] := by decide +kernel
theorem exN_settled : (!(callsS exN).any (fun x => x.opn)) = true := by decide +kernel
theorem exN_settled5 : (!(callsS (exN.take 5)).any (fun x => x.opn)) = false := by decide +kernel
theorem exN_ok : ThreadsOk exN := by unfold ThreadsOk; decide +kernel
theorem exN_ok4 : ThreadsOk (exN.take 4) := by unfold ThreadsOk; decide +kernel
theorem exN_ok5 : ThreadsOk (exN.take 5) := by unfold ThreadsOk; decide +kernel

set_option maxHeartbeats 4000000 in
set_option maxRecDepth 100000 in
theorem awake43_any (w : World) : Calls Tryz.prog 12 #[] w fun e w' => e = .returned (.bool true) ∧ Below w.heap.size w w' := by
  go_enter Tryz.func12, Tryz.ntmps12
  go_wp2_with fail
  refine (call43_any 0 1 8 1 0 w).mono ?_
  rintro e w1 ⟨A1, d1, rfl, ho1, hb1⟩
  have HO1 := Lib.hid ho1
  have HB1 := Lib.hid hb1
  clear ho1 hb1
  simp only [List.length_cons, List.length_nil] at HO1 ⊢
  go_wp2_with fail
  refine (call43_any 0 2 8 2 0 w1).mono ?_
  rintro e w2 ⟨A2, d2, rfl, ho2, hb2⟩
  have HO1' := Lib.hid (own_below HO1.out hb2)
  have HR2 := Lib.hid (own_rd ho2)
  have HN2 := Lib.hid (own_none ho2)
  have HB2 := Lib.hid (HB1.out.trans (hb2.mono HB1.out.size))
  clear ho2 hb2
  simp only [List.length_cons, List.length_nil] at HR2 HN2 ⊢
  go_wp2_with (at_builtin; refine wpList_app rfl (.tmp 4) (.tmp 6) 25 44 rfl w.heap.size zN 13 120 Tryz.underlying25 Nte_info rfl (by decide) A1 2 d1 _ rfl HO1'.out A2 2 d2 _ rfl (fun h => absurd (HN2.out h).1 (by decide)) rfl HR2.out (rows_one _) 4 rfl (rows (exN.take 4)) rfl (by simp [maxLen]) (by omega) HB2.out.size ?_; intro A3 d3 w3 ho3 hg3 hb3)
  have HO3 := Lib.hid ho3
  have HB3 := Lib.hid (HB2.out.trans hb3)
  clear ho3 hb3 hg3 HO1' HR2 HN2 HB2 HO1 HB1
  go_wp2_with fail
  refine (call43_any 1 1 9 0 2 w3).mono ?_
  rintro e w4 ⟨A4, d4, rfl, ho4, hb4⟩
  have HO3' := Lib.hid (own_below HO3.out hb4)
  have HR4 := Lib.hid (own_rd ho4)
  have HN4 := Lib.hid (own_none ho4)
  have HB4 := Lib.hid (HB3.out.trans (hb4.mono HB3.out.size))
  clear ho4 hb4
  simp only [List.length_cons, List.length_nil] at HR4 HN4 ⊢
  go_wp2_with (at_builtin; refine wpList_app rfl (.tmp 8) (.tmp 10) 25 44 rfl w.heap.size zN 13 120 Tryz.underlying25 Nte_info rfl (by decide) A3 4 d3 _ rfl HO3'.out A4 2 d4 _ rfl (fun h => absurd (HN4.out h).1 (by decide)) rfl HR4.out (rows_one _) 6 rfl (rows exN) rfl (by simp [maxLen]) (by omega) HB4.out.size ?_; intro A5 d5 w5 ho5 hg5 hb5)
  have HB5 := Lib.hid (HB4.out.trans hb5)
  have HR5 := Lib.hid (own_rd ho5)
  have hle := own_le ho5
  obtain ⟨g5, rfl, _, _⟩ := own_some ho5 (by decide)
  clear ho5 hb5 hg5 HO3' HR4 HN4 HB4 HO3 HB3
  go_wp2_with fail
  refine (Passed_any _ d5 exN w5 (by decide) exN_ok HR5.out).mono ?_
  rw [exN_passed]
  rintro e w6 ⟨P6, d6, rfl, hr6, _, _, hb6⟩
  replace HB5 := Lib.hid (HB5.out.trans (hb6.mono HB5.out.size))
  replace HR5 := Lib.hid (HR5.out.below hb6)
  obtain ⟨bp, op, rfl, hbp, hcp⟩ := hr6.at_ (by decide)
  have p0 := hcp 0 _ rfl
  have p1 := hcp 1 _ rfl
  simp only [Nat.add_zero] at p0
  clear hb6 hr6 hcp
  go_wp2_with fail
  refine (Wrong_any _ d5 exN w6 (by decide) exN_ok HR5.out).mono ?_
  rw [exN_wrong]
  rintro e w7 ⟨rfl, hb7⟩
  replace HB5 := Lib.hid (HB5.out.trans (hb7.mono HB5.out.size))
  replace HR5 := Lib.hid (HR5.out.below hb7)
  clear hb7 p0 p1
  have q1 : (4 : Int) ≤ (d5 : Int) := by omega
  have q2 : (5 : Int) ≤ (d5 : Int) := by omega
  have q3 : 4 ≤ d5 := by omega
  have q4 : 5 ≤ d5 := by omega
  have HR4 := Lib.hid (rows_take exN 4 ▸ rd_take HR5.out (4 * 13))
  go_wp2_with fail
  refine (Wrong_any _ d5 (exN.take 4) w7 (by decide) exN_ok4 HR4.out).mono ?_
  rw [exN_wrong4]
  rintro e w8 ⟨rfl, hb8⟩
  replace HB5 := Lib.hid (HB5.out.trans (hb8.mono HB5.out.size))
  replace HR5 := Lib.hid (HR5.out.below hb8)
  clear hb8 HR4
  go_wp2_with fail
  refine (Under_any _ d5 exN w8 (by decide) exN_ok HR5.out).mono ?_
  rw [exN_under]
  rintro e w9 ⟨U9, d9, rfl, ho9, hb9⟩
  replace HB5 := Lib.hid (HB5.out.trans (hb9.mono HB5.out.size))
  replace HR5 := Lib.hid (HR5.out.below hb9)
  have HR9 := Lib.hid (own_rd ho9)
  clear hb9 ho9
  simp only [List.length_cons, List.length_nil] at HR9 ⊢
  go_wp2_with fail
  refine (Ints_any U9 (some ⟨w9.heap.size, 0, none⟩) d9 1 [1] [1] _ (by decide) (by decide) (HR9.out.alloc _) (blk_new rfl).rd).mono ?_
  rintro e w10 ⟨rfl, hb10⟩
  replace HB5 := Lib.hid ((HB5.out.alloc HB5.out.size _).trans (hb10.mono (Nat.le_trans HB5.out.size (by simp))))
  replace HR5 := Lib.hid ((HR5.out.alloc _).below hb10)
  clear hb10 HR9
  go_wp2_with fail
  refine (Values_any _ d5 exN w10 (by decide) exN_ok HR5.out).mono ?_
  rw [exN_values]
  rintro e w11 ⟨U11, d11, rfl, ho11, hb11⟩
  replace HB5 := Lib.hid (HB5.out.trans (hb11.mono HB5.out.size))
  replace HR5 := Lib.hid (HR5.out.below hb11)
  have HR11 := Lib.hid (own_rd ho11)
  clear hb11 ho11
  simp only [List.length_cons, List.length_nil] at HR11 ⊢
  go_wp2_with fail
  refine (Ints_any U11 (some ⟨w11.heap.size, 0, none⟩) d11 2 [1, 2] [1, 2] _ (by decide) (by decide) (HR11.out.alloc _) (blk_new rfl).rd).mono ?_
  rintro e w12 ⟨rfl, hb12⟩
  replace HB5 := Lib.hid ((HB5.out.alloc HB5.out.size _).trans (hb12.mono (Nat.le_trans HB5.out.size (by simp))))
  replace HR5 := Lib.hid ((HR5.out.alloc _).below hb12)
  clear hb12 HR11
  go_wp2_with fail
  refine (Settled_any _ d5 exN w12 (by decide) exN_ok HR5.out).mono ?_
  rw [exN_settled]
  rintro e w13 ⟨rfl, hb13⟩
  replace HB5 := Lib.hid (HB5.out.trans (hb13.mono HB5.out.size))
  replace HR5 := Lib.hid (HR5.out.below hb13)
  clear hb13
  have HR6 := Lib.hid (rows_take exN 5 ▸ rd_take HR5.out (5 * 13))
  go_wp2_with fail
  refine (Settled_any _ d5 (exN.take 5) w13 (by decide) exN_ok5 HR6.out).mono ?_
  rw [exN_settled5]
  rintro e w14 ⟨rfl, hb14⟩
  replace HB5 := Lib.hid (HB5.out.trans (hb14.mono HB5.out.size))
  clear hb14
  go_wp2
  go_ret
  exact ⟨rfl, HB5.out⟩

end Go.Proofs.YtieglgahfeecbaaGreatDoor

namespace Go.Proofs.YtieglgahfeecbaaGreatDoor
open Go.ChangeShapes Go.WideShapes Go.ChangeAt Go.RowKit Go.Deep

theorem own_knob : ownKnob Tryz.prog.godebug = none := by kernel_rfl
theorem laid_out : laidOutB Tryz.prog = true := by kernel_rfl

section
variable {H : Type} {enc : TypeId × Value → H} {P : Program}

theorem trodAll_stays (hl : laidOutB P = true) {W W' : World} (hb : Below W.heap.size W W') {sp' : Nat → Bool} : ∀ (ts : List TypeId) (vs : List Value) (ds : List (DataW H)) (ps : List MemPlace),
    (∀ t ∈ ts, P.readableRec t = true ∧ t < P.types.size) → DataW.TrodAll enc P W 0 (fun _ => true) true ts vs ds ps → (∀ x ∈ ps, x.block < W.heap.size) → (∀ x ∈ ps, sp' x.block = true) →
    DataW.TrodAll enc P W' 0 sp' true ts vs ds ps
  | [], vs, ds, ps, _, h, _, _ => by
    obtain ⟨rfl, rfl, rfl⟩ := trodAll_nil h
    exact trodAll_mk0
  | t :: ts, vs, ds, ps, ht, h, hlt, hs => by
    obtain ⟨v, vs', d, ds', p, q, rfl, rfl, rfl, h0, h1⟩ := trodAll_cons h
    have h2 := ht t (by simp)
    exact ⟨p, q, WideElems.Trod_stays hl h2.1 h2.2 h0 (fun x hx => hb.same (hlt x (by simp [hx]))) (fun x hx => hs x (by simp [hx])),
      trodAll_stays hl hb ts vs' ds' q (fun t' h' => ht t' (by simp [h'])) h1 (fun x hx => hlt x (by simp [hx])) (fun x hx => hs x (by simp [hx])), rfl⟩

/-- The law's row, from 'it returned true and nothing that was there has turned'. -/
theorem law_post {f : Func} {s : ChangeSpec} {tb : TypeId} {W W' : World} {args : Array Value} {ds gs : List (DataW H)} {before : List MemPlace}
    (hl : laidOutB P = true) (hts : (f.params.toList.all fun t => P.readableRec t && decide (t < P.types.size)) = true) (hrt : f.resultTypes = #[tb]) (hub : P.underlying tb = some .bool) (hsv : s.vars = [])
    (hW : DataW.Whole enc P f.params.toList s.vars false W args.toList ds gs before) (hfn : s.fn H (ds ++ []) = { results := [.lit (.bool true)], args := ds })
    (hb : Below W.heap.size W W') : s.post enc P f false true false false W args (.bool true) W' := by
  have hlt : ∀ p ∈ before, p.block < W.heap.size := fun p hp => hW.lt p hp
  have hW' := hW
  obtain ⟨p, q, hA, hV, rfl, hfz, hnd⟩ := hW
  rw [hsv] at hV
  obtain ⟨rfl, rfl⟩ := trodVars_none hV
  rw [List.append_nil] at hlt hW'
  have hts' : ∀ t ∈ f.params.toList, P.readableRec t = true ∧ t < P.types.size := fun t ht => by
    have := List.all_eq_true.1 hts t ht
    simpa using this
  refine ⟨ds, [], p, [], p, [], hW', ?_, ?_, ?_, ?_, fun h => by cases h⟩
  · rw [hfn, hrt]
    exact trodAll_mk1 ⟨1, by simp [DataW.trod, Value.cells, hub]⟩
  · rw [hfn]
    exact trodAll_stays hl hb _ _ _ _ hts' hA hlt (fun x hx => by simpa using hlt x hx)
  · rw [hfn, hsv]; rfl
  · exact hb.frame _

/-- A struct by value whose fields are one cell each: the cells, and each field's reading. -/
theorem open_struct {r : Reach} {b0 : Nat} {w : World} {base : Nat} {spare : Nat → Bool} {held : Bool} {t : TypeId} {fs : Array Field} {v : Value} {d : DataW H} {p : List MemPlace} (hs : P.underlying t = some (.struct fs)) (hone : oneCellFields P fs = true) (hC : P.cellsOf t = fs.size)
    (hv : Value.okWide P w r b0 t v) (h : DataW.Trod enc P w base spare held t v d p) :
    ∃ vs : List Value, v = .agg vs.toArray ∧ vs.length = fs.size ∧ ∀ (j : Nat) (f : Field), fs[j]? = some f → ∃ x y n, vs[j]? = some x ∧ DataW.trod enc P w base spare held n f.type [x] = some y := by
  obtain ⟨cs, rfl, hsz⟩ := okWide_struct hs hv
  obtain ⟨l⟩ := cs
  refine ⟨l, rfl, by simpa using hsz.trans hC, fun j f hj => ?_⟩
  obtain ⟨fuel, hf⟩ := h
  obtain ⟨xs, n, _, hx, hl, hlen, hg⟩ := DataW.trod_struct hs hf
  obtain ⟨o, k⟩ := hone_of hone j f hj
  have hjl : j < fs.size := (Array.getElem?_eq_some_iff.1 hj).1
  have hll : l.length = fs.size := by simpa using hsz.trans hC
  have h1 := hg j f hj
  rw [o, k] at h1
  simp only [Value.cells] at h1
  rw [List.drop_eq_getElem_cons (by simpa using (by omega : j < l.length))] at h1
  simp only [List.take_succ_cons, List.take_zero] at h1
  exact ⟨l[j]'(by omega), xs[j]'(by omega), n, List.getElem?_eq_getElem (by omega), h1.trans (List.getElem?_eq_getElem (by omega))⟩

theorem spot_of_cell {w : World} {a : Addr} {v : Value} (h : w.cell? a = some v) : a.spot = none := by
  unfold World.cell? at h
  split at h
  · by_cases hs : a.spot.isSome = true
    · rw [if_pos hs] at h; cases h
    · simpa using hs
  · cases h

/-- A slice of integers that came in, as a list. -/
theorem rd_ints {w : World} {base : Nat} {held : Bool} {t e : TypeId} {n : Nat} {x : Value} {y : DataW H × List MemPlace} (ht : P.underlying t = some (.slice e)) (he : P.underlying e = some (.int .i64)) (hc : P.cellsOf e = 1)
    (h : DataW.trod enc P w base (fun _ => true) held n t [x] = some y) :
    ∃ (A : Option Addr) (l : List Int) (cap : Nat), x = .slice A l.length cap ∧ Rd w A (ints l) ∧ l.length ≤ maxLen ∧ l.length ≤ cap ∧ ∀ z ∈ l, (Lit.int .i64 z).wf = true := by
  rcases open_ints ht he hc h with ⟨hcs, _⟩ | ⟨a, len, cap, zs, hcs, _, hl, hm, hz, _, hcell, hwf⟩
  · simp only [List.cons.injEq, and_true] at hcs
    exact ⟨none, [], 0, hcs, .inl rfl, by simp, by simp, by simp⟩
  · simp only [List.cons.injEq, and_true] at hcs
    simp only [if_true] at hz
    have hlen : (zs.take len).length = len := by rw [List.length_take]; omega
    refine ⟨some a, zs.take len, cap, by rw [hlen]; exact hcs, ?_, by omega, by omega, fun z hz' => hwf z (List.mem_of_mem_take hz')⟩
    rcases Nat.eq_zero_or_pos len with h0 | h0
    · left; simp [h0, ints]
    · right
      have c0 := hcell 0 (by omega)
      obtain ⟨b, o, sp⟩ := a
      have hsp := spot_of_cell c0
      simp [Addr.add] at hsp
      subst hsp
      refine ⟨b, o, rfl, block_lt_of_cell (a := ⟨b, o, none⟩) (by simpa [Addr.add] using c0), fun k v hk => ?_⟩
      have hkl : k < (zs.take len).length := by
        have := (List.getElem?_eq_some_iff.1 hk).1
        simpa [ints] using this
      rw [ints_at hkl] at hk
      have hck := hcell k (by omega)
      have e1 : (Addr.add ⟨b, o, none⟩ k) = ⟨b, o + k, none⟩ := by
        unfold Addr.add; split
        · simp_all
        · rfl
      rw [e1] at hck
      rw [hck, ← hk]
      congr 2
      simp only [List.getD, List.getElem?_take]
      rw [if_pos (by omega)]
end

end Go.Proofs.YtieglgahfeecbaaGreatDoor
