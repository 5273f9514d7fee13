/- pack: a call as words: walked. -/
import Derived.Test.YtieglgahfeecbaaGreatDoorP8
import Derived.Test.YtieglgahfeecbaaGreatDoorP14
import Derived.Test.YtieglgahfeecbaaGreatDoorP15
set_option maxHeartbeats 64000000
set_option maxRecDepth 100000
namespace Go.Proofs.YtieglgahfeecbaaGreatDoor
open Go.RowKit Go.Sort
attribute [local go_sem ↓] Go.wp_at_zero Go.wp_at_succ
theorem oCellsL_any (c : Cfg) (A : Option Addr) (c0 : Nat) (L : List Int) (t seq : Int) (q : Reqr) (l : List Cse) (w : World) (hk1 : c.kind = 2) (hc : CfgIn w c) (hR : Rd w A (words L)) (hL : L.length <= c0) (hbig : ∀ x ∈ L, 0 <= x /\ x < 18446744073709551616) :
  Calls Tryz.prog 105 #[cfgV c, .slice A L.length c0, .int .i64 t, .int .i64 seq, reqV q] w (RetWordsO (cellsO c L t seq (q.p l)) w) := by
 obtain ⟨b0, b1, hb0⟩ := box2 w 24 40 (cfgCells c) q.cells
 have HBC := Zd (cfg_blk b0)
 have HBQ := Zd b1
 have HBX := Zd hb0
 clear b0 b1 hb0
 unfold cfgCells Reqr.cells at HBC HBQ HBX
 have HRD := Zd (fun W (hb : Below w.heap.size w W) => kReadC_any c A c0 L W (hc.below hb) (hR.below hb) hL hbig)
 have HAP := Zd (fun W (x : Clr) (hx : ClrAt W x) (h1 : x.list.length <= x.lc) => lApply_any x t seq q l W hx h1)
 have HPC := Zd (fun W x (hb : Below w.heap.size w W) (hx : ClrAt W x) => kPutC_any c x W (hc.below hb) hx)
 have e2 : (c.kind == 2) = true := by simp [hk1]
 have hd2 : decide (c.kind = 2) = true := by simp [hk1]
 cases hr : readC c L with
 | none =>
   have HV : Hid (cellsO c L t seq (q.p l) = .none) := Zd (by simp [cellsO, hr])
   rw [hr] at HRD
   generalize cellsO c L t seq (q.p l) = R at *
   clear hc hR hL hbig hk1 e2 hd2 hr HAP HPC
   generalize L.length = n at *
   unfold cfgV at HRD ⊢
   go_enter Tryz.func105, Tryz.ntmps105
   go_wp2_with (refine (HRD.out _ HBX.out).mono ?_
                rintro er w1 ⟨⟨cap1, LA1, lc1, li1, DA1, dc1, dn1⟩, rfl, _, hown, hb1⟩
                have HB1 := Zd (btr HBX.out hb1)
                clear hb1 hown
                unfold clrV
                simp only [Option.isSome_none])
   go_ret2
   refine ⟨none, 0, by rw [HV.out]; rfl, by rw [HV.out]; exact own_nil _ _ _ _, HB1.out.alloc HB1.out.size _⟩
 | some p =>
   have HV : Hid (cellsO c L t seq (q.p l) = some (putC c (applyC true p t seq (q.p l)))) := Zd (by simp [cellsO, hr, hd2])
   obtain ⟨hck, hk3, hfit, _, _⟩ := readC_fit hr
   have hcap := chk_cap hck
   have hp1 : p.list.length <= 16 := by have := hfit.few; omega
   have hp2 : p.done.length <= 64 := by have := hfit.ndn; omega
   have hp3 : -1 <= p.cap := by have := hfit.cap; omega
   have HF : Hid (p.list.length <= 16 /\ p.done.length <= 64 /\ -1 <= p.cap) := Zd ⟨hp1, hp2, hp3⟩
   have HY : Hid (∀ y : Clr, y.p = applyC true p t seq (q.p l) -> y.list.length <= 1048576 /\ y.done.length <= 4096) := Zd (fun y hy => by
    have h1 : y.list = (applyC true p t seq (q.p l)).list := congrArg CellsP.list hy
    have h2 : y.done = (applyC true p t seq (q.p l)).done := congrArg CellsP.done hy
    rw [h1, h2]
    constructor
    . show (stpC _ _ _ _).1.length <= _
      unfold stpC
      repeat' split
      all_goals (first | omega | (simp; omega))
    . show (setR _ _ _).length <= _
      unfold setR
      split
      . simp; omega
      . omega)
   rw [hr] at HRD
   generalize cellsO c L t seq (q.p l) = R at *
   clear hc hR hL hbig hk1 hd2 hr hck hk3 hfit hcap hp1 hp2 hp3
   generalize L.length = n at *
   unfold cfgV at HRD HPC ⊢
   unfold reqV at HAP ⊢
   go_enter Tryz.func105, Tryz.ntmps105
   go_wp2_with (refine (HRD.out _ HBX.out).mono ?_
                rintro er w1 ⟨⟨cap1, LA1, lc1, li1, DA1, dc1, dn1⟩, rfl, hp, hown, hb1⟩
                have HP := Zd (hp p rfl)
                have HB1 := Zd (btr HBX.out hb1)
                have HC1 := Zd (HBC.out.below hb1)
                have HQ1 := Zd (HBQ.out.below hb1 HBQ.out.lt)
                have HO1 := Zd hown
                clear hb1 hown hp
                obtain ⟨f0, f1, f2, f3, f4, f5, f6, f7, f8, f9, f10⟩ := HC1.out.all
                have hlt0 : w.heap.size < w1.heap.size := HC1.out.1
                have hlt1 : w.heap.size + 1 < w1.heap.size := HQ1.out.lt
                unfold clrV
                simp only [Option.isSome_some])
   have HCX := Zd (HC1.out.below ((Below.refl w1.heap.size w1).alloc (Nat.le_refl _) (.cells #[.int .i64 cap1, .slice LA1 li1.length lc1, .slice DA1 dn1.length dc1] 91)))
   have HQX := Zd (HQ1.out.alloc (.cells #[.int .i64 cap1, .slice LA1 li1.length lc1, .slice DA1 dn1.length dc1] 91))
   have HXX := Zd (Blk.new w1 91 [.int .i64 cap1, .slice LA1 li1.length lc1, .slice DA1 dn1.length dc1])
   have HOX := Zd (HO1.out.below ((Below.refl w1.heap.size w1).alloc (Nat.le_refl _) (.cells #[.int .i64 cap1, .slice LA1 li1.length lc1, .slice DA1 dn1.length dc1] 91)))
   have HBW := Zd (HB1.out.alloc HB1.out.size (.cells #[.int .i64 cap1, .slice LA1 li1.length lc1, .slice DA1 dn1.length dc1] 91))
   clear f0 f1 f2 f3 f4 f5 f6 f7 f8 f9 f10
   have hlt2 : w1.heap.size < (w1.alloc (.cells #[.int .i64 cap1, .slice LA1 li1.length lc1, .slice DA1 dn1.length dc1] 91)).heap.size := lt_alloc _ _
   have hlt3 : w.heap.size < (w1.alloc (.cells #[.int .i64 cap1, .slice LA1 li1.length lc1, .slice DA1 dn1.length dc1] 91)).heap.size := HCX.out.1
   have hlt4 : w.heap.size + 1 < (w1.alloc (.cells #[.int .i64 cap1, .slice LA1 li1.length lc1, .slice DA1 dn1.length dc1] 91)).heap.size := HQX.out.lt
   generalize w1.alloc (.cells #[.int .i64 cap1, .slice LA1 li1.length lc1, .slice DA1 dn1.length dc1] 91) = V at *
   obtain ⟨f0, f1, f2, f3, f4, f5, f6, f7, f8, f9, f10⟩ := HCX.out.all
   have g0 := HQX.out.cell (i := 0) rfl
   have g1 := HQX.out.cell (i := 1) rfl
   have g2 := HQX.out.cell (i := 2) rfl
   have g3 := HQX.out.cell (i := 3) rfl
   have g4 := HQX.out.cell (i := 4) rfl
   have y0 := HXX.out.cell (i := 0) rfl
   have y1 := HXX.out.cell (i := 1) rfl
   have y2 := HXX.out.cell (i := 2) rfl
   have HPP : Hid (li1.length <= 16 /\ dn1.length <= 64 /\ -1 <= cap1) := Zd (by
    have h := HF.out
    rw [<- HP.out] at h
    exact h)
   have HAT := Zd (HOX.out.at_ (Nat.le_trans HPP.out.1 (by decide)) (Nat.le_trans HPP.out.2.1 (by decide)))
   have HATd := Zd (ClrAt.below HAT.out (Below.drewN' (Below.refl V.heap.size V) 1))
   have HAPX := Zd (HAP.out _ _ HATd.out (own_le HOX.out.l))
   unfold clrV at HAPX
   simp only at HAPX
   go_region_held3 (fun w' => w'.cell? ⟨w.heap.size, 0, none⟩ = some (.int .i64 c.kind) /\ w'.cell? ⟨w.heap.size, 1, none⟩ = some (.int .i64 c.threads) /\ w'.cell? ⟨w.heap.size, 2, none⟩ = some (.int .i64 c.chans) /\ w'.cell? ⟨w.heap.size, 3, none⟩ = some (.int .i64 c.cap) /\ w'.cell? ⟨w.heap.size, 4, none⟩ = some (.int .i64 c.nodes) /\ w'.cell? ⟨w.heap.size, 5, none⟩ = some (.int .i64 c.retire) /\ w'.cell? ⟨w.heap.size, 6, none⟩ = some (.int .i64 c.patience) /\ w'.cell? ⟨w.heap.size, 7, none⟩ = some (.int .i64 c.tags) /\ w'.cell? ⟨w.heap.size, 8, none⟩ = some (.int .i64 c.seqs) /\ w'.cell? ⟨w.heap.size, 9, none⟩ = some (.int .i64 c.gens) /\ w'.cell? ⟨w.heap.size, 10, none⟩ = some (.slice c.sa c.start.length c.sc) /\ w'.cell? ⟨w.heap.size + 1, 0, none⟩ = some (.int .i64 q.kind) /\ w'.cell? ⟨w.heap.size + 1, 1, none⟩ = some (.int .i64 q.arg) /\ w'.cell? ⟨w.heap.size + 1, 2, none⟩ = some (.int .i64 q.value) /\ w'.cell? ⟨w.heap.size + 1, 3, none⟩ = some (.bool q.dflt) /\ w'.cell? ⟨w.heap.size + 1, 4, none⟩ = some (.slice q.A q.n q.c) /\ w'.cell? ⟨w1.heap.size, 0, none⟩ = some (.int .i64 cap1) /\ w'.cell? ⟨w1.heap.size, 1, none⟩ = some (.slice LA1 li1.length lc1) /\ w'.cell? ⟨w1.heap.size, 2, none⟩ = some (.slice DA1 dn1.length dc1)) (first | go_keep | (simp only [hk1, hk2, hk3]; go_keep)) (first
    | (go_at_call 131; refine HAPX.out.mono ?_; rintro er w2 ⟨x, rfl, hp, hown, hb2⟩; have hY := HY.out x (by rw [hp, HP.out]); have hB2 : Below V.heap.size V w2 := ⟨hb2.os, hb2.tape, hb2.output, hb2.size, hb2.block⟩; have hk1 := fun o => hB2.cell (p := ⟨w.heap.size, o, none⟩) hlt3; have hk2 := fun o => hB2.cell (p := ⟨w.heap.size + 1, o, none⟩) hlt4; have hk3 := fun o => hB2.cell (p := ⟨w1.heap.size, o, none⟩) hlt2)
    | (go_at_call 39; refine (HPC.out _ _ (btr HBW.out hB2) (hown.at_ hY.1 hY.2)).mono ?_; rintro er w3 ⟨A3, d3, rfl, ho3, hb3⟩; have hB3 := hB2.trans (hb3.mono hB2.size); have hk1 := fun o => hB3.cell (p := ⟨w.heap.size, o, none⟩) hlt3; have hk2 := fun o => hB3.cell (p := ⟨w.heap.size + 1, o, none⟩) hlt4; have hk3 := fun o => hB3.cell (p := ⟨w1.heap.size, o, none⟩) hlt2))
   have HB3 := Zd (btr HBW.out hB3)
   have HO3 := Zd (own_lower ho3 (Nat.le_trans HBW.out.size hB2.size))
   simp only [hp] at HO3
   clear hk1 hk2 hk3 f0 f1 f2 f3 f4 f5 f6 f7 f8 f9 f10 g0 g1 g2 g3 g4 y0 y1 y2 hB3 ho3 hb3 hb2 hB2 hp hY
   go_wp2_with fail
   go_ret2
   refine ⟨A3, d3, ?_, ?_, HB3.out⟩
   . rw [HV.out, <- HP.out]; rfl
   . rw [HV.out, <- HP.out]; exact HO3.out
theorem oApplyL_any (c : Cfg) (A : Option Addr) (c0 : Nat) (L : List Int) (t seq : Int) (q : Reqr) (l : List Cse) (w : World) (hk1 : c.kind = 2) (hc : CfgIn w c) (hR : Rd w A (words L)) (hL : L.length <= c0) (hc0 : L.length <= 1048576) (hbig : ∀ x ∈ L, 0 <= x /\ x < 18446744073709551616) (hq : ReqAt w q l) :
  Calls Tryz.prog 72 #[cfgV c, .slice A L.length c0, .int .i64 t, .int .i64 seq, reqV q] w (RetWords (applyO c L t seq (q.p l)) w) := by
 obtain ⟨b0, b1, hb0⟩ := box2 w 24 40 (cfgCells c) q.cells
 have HBC := Zd (cfg_blk b0)
 have HBQ := Zd b1
 have HBX := Zd hb0
 clear b0 b1 hb0
 unfold cfgCells Reqr.cells at HBC HBQ HBX
 have HFI := Zd (fun W (hb : Below w.heap.size w W) => pFits_any q l W (hq.below hb))
 have HCE := Zd (fun W (hb : Below w.heap.size w W) => oCellsL_any c A c0 L t seq q l W hk1 (hc.below hb) (hR.below hb) hL hbig)
 have HCL := Zd (fun W (hb : Below w.heap.size w W) => CloneW_any A L.length c0 (words L) W (by omega) (by rw [words_length]; omega) (words_one _) (hR.below hb))
 have HV : Hid (applyO c L t seq (q.p l) = if t < 0 ∨ c.threads <= t ∨ seq < 0 ∨ 1048575 < seq ∨ fitsQ (q.p l) = false then L else (cellsO c L t seq (q.p l)).getD L) := Zd (by
  unfold applyO
  split
  . rfl
  . rw [if_neg (by omega)]
    unfold cellsO
    cases readC c L <;> rfl)
 have e3 : (c.kind == 3) = false := by simp [hk1]
 have e3' : (c.kind != 3) = true := by simp [hk1]
 generalize applyO c L t seq (q.p l) = R at *
 generalize cellsO c L t seq (q.p l) = O at *
 generalize fitsQ (q.p l) = F at *
 clear hc hR hL hbig hk1 hq hc0
 generalize hn : L.length = n at *
 have HN := Zd hn
 clear hn
 have HBV := Zd HBC.out.all
 unfold cfgV at HCE ⊢
 unfold reqV at HFI HCE ⊢
 by_cases h1 : t < 0
 . have HVV : Hid (R = L) := Zd (by rw [HV.out, if_pos (by exact .inl h1)])
   skip
   clear HV
   go_enter Tryz.func72, Tryz.ntmps72
   go_wp2_with (first
    | (refine (HCL.out _ HBX.out).mono ?_; rintro er w2 ⟨A2, d2, rfl, ho2, hb2⟩; have HO2 := Zd (own_lower ho2 HBX.out.size); have HB2 := Zd (btr HBX.out hb2); clear ho2 hb2))
   go_ret
   exact ⟨A2, d2, by rw [HVV.out, HN.out]; rfl, by rw [HVV.out, HN.out]; exact HO2.out, HB2.out⟩
 by_cases h2 : c.threads <= t
 . have HVV : Hid (R = L) := Zd (by rw [HV.out, if_pos (by exact .inr (.inl h2))])
   skip
   clear HV
   go_enter Tryz.func72, Tryz.ntmps72
   go_wp2_with (first
    | (refine (HCL.out _ HBX.out).mono ?_; rintro er w2 ⟨A2, d2, rfl, ho2, hb2⟩; have HO2 := Zd (own_lower ho2 HBX.out.size); have HB2 := Zd (btr HBX.out hb2); clear ho2 hb2))
   go_ret
   exact ⟨A2, d2, by rw [HVV.out, HN.out]; rfl, by rw [HVV.out, HN.out]; exact HO2.out, HB2.out⟩
 by_cases h3 : seq < 0
 . have HVV : Hid (R = L) := Zd (by rw [HV.out, if_pos (by exact .inr (.inr (.inl h3)))])
   skip
   clear HV
   go_enter Tryz.func72, Tryz.ntmps72
   go_wp2_with (first
    | (refine (HCL.out _ HBX.out).mono ?_; rintro er w2 ⟨A2, d2, rfl, ho2, hb2⟩; have HO2 := Zd (own_lower ho2 HBX.out.size); have HB2 := Zd (btr HBX.out hb2); clear ho2 hb2))
   go_ret
   exact ⟨A2, d2, by rw [HVV.out, HN.out]; rfl, by rw [HVV.out, HN.out]; exact HO2.out, HB2.out⟩
 by_cases h4 : 1048575 < seq
 . have HVV : Hid (R = L) := Zd (by rw [HV.out, if_pos (by exact .inr (.inr (.inr (.inl h4))))])
   skip
   clear HV
   go_enter Tryz.func72, Tryz.ntmps72
   go_wp2_with (first
    | (refine (HCL.out _ HBX.out).mono ?_; rintro er w2 ⟨A2, d2, rfl, ho2, hb2⟩; have HO2 := Zd (own_lower ho2 HBX.out.size); have HB2 := Zd (btr HBX.out hb2); clear ho2 hb2))
   go_ret
   exact ⟨A2, d2, by rw [HVV.out, HN.out]; rfl, by rw [HVV.out, HN.out]; exact HO2.out, HB2.out⟩
 cases hf : F
 . have HVV : Hid (R = L) := Zd (by rw [HV.out, if_pos (by exact .inr (.inr (.inr (.inr hf))))])
   rw [hf] at HFI
   clear hf
   clear HV
   go_enter Tryz.func72, Tryz.ntmps72
   go_wp2_with (first
    | (refine (HFI.out _ HBX.out).mono ?_; rintro er w1 ⟨rfl, hb1⟩; have HB1 := Zd (btr HBX.out hb1); clear hb1)
    | (refine (HCL.out _ HB1.out).mono ?_; rintro er w2 ⟨A2, d2, rfl, ho2, hb2⟩; have HO2 := Zd (own_lower ho2 HB1.out.size); have HB2 := Zd (btr HB1.out hb2); clear ho2 hb2))
   go_ret
   exact ⟨A2, d2, by rw [HVV.out, HN.out]; rfl, by rw [HVV.out, HN.out]; exact HO2.out, HB2.out⟩
 . have HVV : Hid (R = O.getD L) := Zd (by rw [HV.out, if_neg (by rintro (g | g | g | g | g) <;> first | omega | (rw [hf] at g; cases g))])
   rw [hf] at HFI
   clear HV hf
   cases O with
   | none =>
     go_enter Tryz.func72, Tryz.ntmps72
     go_wp2_with (first
      | (refine (HFI.out _ HBX.out).mono ?_; rintro er w1 ⟨rfl, hb1⟩; have HB1 := Zd (btr HBX.out hb1); have HC1 := Zd (HBC.out.below hb1); have HQ1 := Zd (HBQ.out.below hb1 HBQ.out.lt); clear hb1; obtain ⟨f0, f1, f2, f3, f4, f5, f6, f7, f8, f9, f10⟩ := HC1.out.all; obtain ⟨g0, g1, g2, g3, g4⟩ := reqBox (q := q) HQ1.out)
      | (refine (HCE.out _ HB1.out).mono ?_; rintro er w2 ⟨A2, d2, rfl, ho2, hb2⟩; have HB2 := Zd (btr HB1.out hb2); clear ho2 hb2; simp only [Option.isSome_none, Option.getD_none])
      | (refine (HCL.out _ HB2.out).mono ?_; rintro er w3 ⟨A3, d3, rfl, ho3, hb3⟩; have HO3 := Zd (own_lower ho3 HB2.out.size); have HB3 := Zd (btr HB2.out hb3); clear ho3 hb3))
     go_ret
     exact ⟨A3, d3, by rw [HVV.out]; simp only [Option.getD_none]; rw [HN.out]; rfl, by rw [HVV.out]; simp only [Option.getD_none]; rw [HN.out]; exact HO3.out, HB3.out⟩
   | some o =>
     go_enter Tryz.func72, Tryz.ntmps72
     go_wp2_with (first
      | (refine (HFI.out _ HBX.out).mono ?_; rintro er w1 ⟨rfl, hb1⟩; have HB1 := Zd (btr HBX.out hb1); have HC1 := Zd (HBC.out.below hb1); have HQ1 := Zd (HBQ.out.below hb1 HBQ.out.lt); clear hb1; obtain ⟨f0, f1, f2, f3, f4, f5, f6, f7, f8, f9, f10⟩ := HC1.out.all; obtain ⟨g0, g1, g2, g3, g4⟩ := reqBox (q := q) HQ1.out)
      | (refine (HCE.out _ HB1.out).mono ?_; rintro er w2 ⟨A2, d2, rfl, ho2, hb2⟩; have HO2 := Zd (own_lower ho2 HB1.out.size); have HB2 := Zd (btr HB1.out hb2); clear ho2 hb2; simp only [Option.isSome_some, Option.getD_some]))
     go_ret
     exact ⟨A2, d2, by rw [HVV.out]; rfl, by rw [HVV.out]; exact HO2.out, HB2.out⟩
theorem objOk_lifo (c : Cfg) (hk : c.kind = 2) : ObjOk c where
 start := fun w hc => by
  cases h : chkB c
  . exact oStart_no c w hc h
  . exact oStart_cells c w hc h (by omega)
 apply := fun A c0 L t seq q l w hc hR hL hc0 hbig hq _ => oApplyL_any c A c0 L t seq q l w hk hc hR hL hc0 hbig hq
 done := fun A c0 L t w hc hR hL h0 ht => oDone_any c A c0 L t w hc hR hL h0 ht
 big := fun L t seq q h => applyO_big (by omega) L t seq q h
 big0 := startO_big (by omega)
theorem rfPlace_no (h : Int) (w : World) (hp : plcOk h = false) :
  Calls Tryz.prog 208 #[.int .i64 h] w fun e w' => e = .returned (.tuple #[.int .i64 0, .int .i64 0, .bool false]) /\ w' = w := by
 unfold plcOk at hp
 by_cases h1 : h < 8
 . have d1 : decide (h < 8) = true := decide_eq_true h1
   clear hp
   go_enter Tryz.func208, Tryz.ntmps208
   go_wp2
   go_ret3
   exact ⟨rfl, rfl⟩
 . have h2 : 32768 <= h := by
    simp only [Bool.and_eq_false_iff, decide_eq_false_iff_not] at hp
    omega
   have d1 : decide (h < 8) = false := decide_eq_false h1
   have d2 : decide (32768 <= h) = true := decide_eq_true h2
   clear hp
   go_enter Tryz.func208, Tryz.ntmps208
   go_wp2
   go_ret3
   exact ⟨rfl, rfl⟩
theorem rfPlace_ok (h : Int) (w : World) (hp : plcOk h = true) :
  Calls Tryz.prog 208 #[.int .i64 h] w fun e w' => e = .returned (.tuple #[.int .i64 (h % 8), .int .i64 (h / 8), .bool true]) /\ w' = w := by
 unfold plcOk at hp
 simp only [Bool.and_eq_true, decide_eq_true_eq] at hp
 obtain ⟨h1, h2⟩ := hp
 have h1' : ¬ h < 8 := by omega
 have h2' : ¬ 32768 <= h := by omega
 have e1 : Int.tmod h 8 = h % 8 := Int.tmod_eq_emod_of_nonneg (by omega)
 have e2 : Int.tdiv h 8 = h / 8 := Int.tdiv_eq_ediv_of_nonneg (by omega)
 have e3 : IntKind.i64.wrap (h / 8) = h / 8 := IntWalk.i64_in _ (by omega)
 have e4 : IntKind.i64.wrap (h % 8) = h % 8 := IntWalk.i64_in _ (by omega)
 go_enter Tryz.func208, Tryz.ntmps208
 go_wp2
 go_ret3
 exact ⟨rfl, rfl⟩
theorem rfHandle_any (p g : Int) (w : World) (hp : 0 <= p) (hp2 : p <= 7) (hg : 1 <= g) (hg2 : g <= 4095) :
  Calls Tryz.prog 193 #[.int .i64 p, .int .i64 g] w fun e w' => e = .returned (.int .i64 (handP p g)) /\ w' = w := by
 have d1 : ¬ p < 0 := by omega
 have d2 : ¬ 8 <= p := by omega
 have d3 : ¬ g < 1 := by omega
 have d4 : ¬ 4095 < g := by omega
 have HV : Hid (handP p g = g * 8 + p) := Zd (by unfold handP; rw [if_neg (by omega)]; omega)
 generalize handP p g = R at *
 go_enter Tryz.func193, Tryz.ntmps193
 go_wp2
 go_ret
 exact ⟨ret_int HV.out.symm, rfl⟩
structure Hal where
 (ticket : Int)
 (CA : Option Addr)
 (cc : Nat)
 (chans : List Chn)
 (WA : Option Addr)
 (wc : Nat)
 (waits : List Wtr)
 (DA : Option Addr)
 (dc : Nat)
 (done : List Resr)
def Hal.cells (h : Hal) : List Value := [.int .i64 h.ticket, .slice h.CA h.chans.length h.cc, .slice h.WA h.waits.length h.wc, .slice h.DA h.done.length h.dc]
abbrev halV (h : Hal) : Value := .agg #[.int .i64 h.ticket, .slice h.CA h.chans.length h.cc, .slice h.WA h.waits.length h.wc, .slice h.DA h.done.length h.dc]
def Hal.p (h : Hal) : HallP := ⟨h.ticket, h.chans.map Chn.p, h.waits.map Wtr.p, h.done⟩
def Hal.none : Hal := ⟨0, .none, 0, [], .none, 0, [], .none, 0, []⟩
structure HalAt (w : World) (h : Hal) : Prop where
 cr : Rd w h.CA (rows h.chans)
 cb : ∀ x ∈ h.chans, ChAt w x
 cf : h.chans.length <= 4096
 wr : WtsAt w h.WA h.waits.length h.waits
 wf : h.waits.length <= 4096
 dr : Rd w h.DA (rows h.done)
 df : h.done.length <= 4096
theorem HalAt.below {w w' : World} {h : Hal} (H : HalAt w h) (hb : Below w.heap.size w w') : HalAt w' h :=
 ⟨H.cr.below hb, fun x hx => (H.cb x hx).below hb, H.cf, H.wr.below hb, H.wf, H.dr.below hb, H.df⟩
structure OwnHal (base : Nat) (w : World) (h : Hal) : Prop where
 cr : w.ownsRow base 124 5 (.slice h.CA h.chans.length h.cc) h.chans.length (rows h.chans)
 cb : ∀ x ∈ h.chans, OwnBuf base w x
 wr : OwnWts base w h.WA h.waits.length h.wc h.waits
 dr : w.ownsRow base 42 4 (.slice h.DA h.done.length h.dc) h.done.length (rows h.done)
theorem OwnHal.below {base : Nat} {w w' : World} {h : Hal} (H : OwnHal base w h) (hb : Below w.heap.size w w') : OwnHal base w' h :=
 ⟨own_below H.cr hb, fun x hx => (H.cb x hx).below hb, H.wr.below hb, own_below H.dr hb⟩
theorem OwnHal.lower {base b : Nat} {w : World} {h : Hal} (H : OwnHal base w h) (hb : b <= base) : OwnHal b w h :=
 ⟨own_lower H.cr hb, fun x hx => (H.cb x hx).lower hb, H.wr.lower hb, own_lower H.dr hb⟩
structure HalFew (h : Hal) : Prop where
 cf : h.chans.length <= 4096
 cb : ∀ x ∈ h.chans, x.buf.length <= 1048576
 wf : h.waits.length <= 4096
 wc : ∀ x ∈ h.waits, x.cs.length <= 1048576
 df : h.done.length <= 4096
theorem OwnHal.at_ {base : Nat} {w : World} {h : Hal} (H : OwnHal base w h) (hf : HalFew h) : HalAt w h :=
 ⟨own_rd H.cr, fun x hx => (H.cb x hx).at_ (hf.cb x hx), hf.cf, H.wr.at_ (by have := hf.wf; omega) hf.wc, hf.wf, own_rd H.dr, hf.df⟩
theorem chP_getD (l : List Chn) (k : Nat) : (l.map Chn.p).getD k ChP.none = (l.getD k Chn.none).p := chn_map_getD l k
def findI (l : List ChP) (h : Int) : Int := if findB l h = true then h % 8 else 0
theorem hFind_any (h : Hal) (handle : Int) (w : World) (hr : Rd w h.CA (rows h.chans)) (hf : h.chans.length <= 4096) :
  Calls Tryz.prog 194 #[halV h, .int .i64 handle] w fun e w' => e = .returned (.tuple #[.int .i64 (findI (h.chans.map Chn.p) handle), .bool (findB (h.chans.map Chn.p) handle)]) /\ Below w.heap.size w w' := by
 have HB0 := Zd ((Below.refl w.heap.size w).alloc (Nat.le_refl _) (.cells #[.int .i64 h.ticket, .slice h.CA h.chans.length h.cc, .slice h.WA h.waits.length h.wc, .slice h.DA h.done.length h.dc] 87))
 unfold halV
 by_cases hp : plcOk handle = true
 . have hb8 : 8 <= handle /\ handle < 32768 := by
    unfold plcOk at hp
    simpa using hp
   obtain ⟨k, hk⟩ : ∃ k : Nat, handle % 8 = k := ⟨(handle % 8).toNat, by omega⟩
   have hk7 : k <= 7 := by omega
   have HPL := Zd (fun W => rfPlace_ok handle W hp)
   rw [hk] at HPL
   by_cases hkl : k < h.chans.length
   . obtain ⟨b, o, hA, hbl, hc⟩ := hr.at_ (by rw [rows_length]; simp only [Cellful.s]; omega)
     obtain ⟨c0, _, c2, _, _⟩ := chn_cells hc hkl rfl
     have HV : Hid (findB (h.chans.map Chn.p) handle = ((h.chans.getD k Chn.none).used && ((h.chans.getD k Chn.none).gen == handle / 8))) := Zd (by
      unfold findB
      rw [hp, hk, Int.toNat_natCast, chP_getD, List.length_map, decide_eq_true (by omega)]
      rfl)
     have HI : Hid (findI (h.chans.map Chn.p) handle = if findB (h.chans.map Chn.p) handle = true then (k : Int) else 0) := Zd (by unfold findI; rw [hk])
     generalize findI (h.chans.map Chn.p) handle = fi at *
     generalize findB (h.chans.map Chn.p) handle = fb at *
     have hne : ¬ b = w.heap.size := by omega
     have c0' : ∀ ob, (w.alloc ob).cell? ⟨b, o + k * 5, none⟩ = some (.int .i64 (h.chans.getD k Chn.none).gen) := fun ob => by rw [World.cell?_alloc_lt _ _ _ (by exact hbl)]; exact c0
     have c2' : ∀ ob, (w.alloc ob).cell? ⟨b, o + k * 5 + 2, none⟩ = some (.bool (h.chans.getD k Chn.none).used) := fun ob => by rw [World.cell?_alloc_lt _ _ _ (by exact hbl)]; exact c2
     have HNG : Hid (∀ x y : Int, (x == y) = decide (x = y)) := Zd (fun _ _ => rfl)
     clear c0 c2 hc hr hp
     generalize (h.chans.getD k Chn.none).gen = gen at *
     generalize (h.chans.getD k Chn.none).used = us at *
     generalize hnl : h.chans.length = n at *
     clear hnl
     have q0 : (0 : Int) <= (k : Int) := by omega
     have q1 : (k : Int) < (n : Int) := by omega
     have q2 : ¬ (n : Int) <= (k : Int) := by omega
     have q3 : ¬ n <= k := by omega
     rw [hA] at HB0
     rw [hA]
     clear hA hk hb8
     generalize handle / 8 = g8 at *
     cases us
     . go_enter Tryz.func194, Tryz.ntmps194
       go_wp2_with (go_at_call 208; refine (HPL.out _).mono ?_; rintro e w1 ⟨rfl, rfl⟩)
       go_ret2
       exact ⟨by rw [HI.out, HV.out]; rfl, HB0.out⟩
     . by_cases hge : gen = g8
       . have e1 : (gen == g8) = true := by simp [hge]
         have HV1 : Hid (fb = true) := Zd (by rw [HV.out, e1]; rfl)
         have HI1 : Hid (fi = (k : Int)) := Zd (by rw [HI.out, HV1.out]; rfl)
         clear HV HI hge
         go_enter Tryz.func194, Tryz.ntmps194
         go_wp2_with (go_at_call 208; refine (HPL.out _).mono ?_; rintro e w1 ⟨rfl, rfl⟩)
         go_ret2
         exact ⟨by rw [HI1.out, HV1.out]; rfl, HB0.out⟩
       . have e1 : (gen == g8) = false := by simp [hge]
         have HV1 : Hid (fb = false) := Zd (by rw [HV.out, e1]; rfl)
         have HI1 : Hid (fi = 0) := Zd (by rw [HI.out, HV1.out]; rfl)
         clear HV HI hge
         go_enter Tryz.func194, Tryz.ntmps194
         go_wp2_with (go_at_call 208; refine (HPL.out _).mono ?_; rintro e w1 ⟨rfl, rfl⟩)
         go_ret2
         exact ⟨by rw [HI1.out, HV1.out]; rfl, HB0.out⟩
   . have HV : Hid (findB (h.chans.map Chn.p) handle = false) := Zd (by
      unfold findB
      rw [hk, List.length_map, decide_eq_false (by omega)]
      simp)
     have HI : Hid (findI (h.chans.map Chn.p) handle = 0) := Zd (by unfold findI; rw [HV.out]; rfl)
     generalize findI (h.chans.map Chn.p) handle = fi at *
     generalize findB (h.chans.map Chn.p) handle = fb at *
     generalize hnl : h.chans.length = n at *
     have q2 : (n : Int) <= (k : Int) := by omega
     have q3 : n <= k := by omega
     clear hnl hr hp hk hb8 hkl
     generalize handle / 8 = g8 at *
     go_enter Tryz.func194, Tryz.ntmps194
     go_wp2_with (go_at_call 208; refine (HPL.out _).mono ?_; rintro e w1 ⟨rfl, rfl⟩)
     go_ret2
     exact ⟨by rw [HI.out, HV.out]; rfl, HB0.out⟩
 . have hp' : plcOk handle = false := by simpa using hp
   have HPL := Zd (fun W => rfPlace_no handle W hp')
   have HV : Hid (findB (h.chans.map Chn.p) handle = false) := Zd (by unfold findB; rw [hp']; rfl)
   have HI : Hid (findI (h.chans.map Chn.p) handle = 0) := Zd (by unfold findI; rw [HV.out]; rfl)
   generalize findI (h.chans.map Chn.p) handle = fi at *
   generalize findB (h.chans.map Chn.p) handle = fb at *
   clear hp hp' hr
   go_enter Tryz.func194, Tryz.ntmps194
   go_wp2_with (go_at_call 208; refine (HPL.out _).mono ?_; rintro e w1 ⟨rfl, rfl⟩)
   go_ret2
   exact ⟨by rw [HI.out, HV.out]; rfl, HB0.out⟩
theorem kChannel_any (c : Cfg) (x : Chn) (w : World) (hR : Rd w x.A (ints x.buf)) (hf : x.buf.length <= 1048576) :
  Calls Tryz.prog 111 #[cfgV c, chnV x] w fun e w' => e = .returned (.bool (chanB c.cap x.p)) /\ Below w.heap.size w w' := by
 obtain ⟨gen, cap, used, closed, A, d, buf⟩ := x
 have HV : Hid (chanB c.cap (Chn.p ⟨gen, cap, used, closed, A, d, buf⟩) = (inB gen 0 4095 && inB cap 0 c.cap && valuesB buf cap && (used || (!closed && decide (cap = 0))))) := Zd rfl
 generalize chanB c.cap (Chn.p ⟨gen, cap, used, closed, A, d, buf⟩) = R at *
 have HVA := Zd (fun W (hb : Below w.heap.size w W) => kvalues_any A d buf cap W hf (hR.below hb))
 have HI1 := Zd (fun W => in_any gen 0 4095 W)
 have HI2 := Zd (fun W => in_any cap 0 c.cap W)
 clear hR hf
 unfold chnV cfgV
 simp only
 generalize buf.length = bl at *
 generalize valuesB buf cap = v at *
 generalize inB gen 0 4095 = i1 at *
 generalize inB cap 0 c.cap = i2 at *
 obtain ⟨f0, f1, f2, f3, f4, f5, f6, f7, f8, f9, f10⟩ := (BoxC.new w c).all
 have HBX := Zd (below_two w (.cells #[.int .i64 c.kind, .int .i64 c.threads, .int .i64 c.chans, .int .i64 c.cap, .int .i64 c.nodes, .int .i64 c.retire, .int .i64 c.patience, .int .i64 c.tags, .int .i64 c.seqs, .int .i64 c.gens, .slice c.sa c.start.length c.sc] 24) (.cells #[.int .i64 gen, .int .i64 cap, .bool used, .bool closed, .slice A bl d] 124))
 cases used <;> cases closed
 all_goals
  go_enter Tryz.func111, Tryz.ntmps111
  go_wp2_with (first
   | (go_at_call 48; first | (with_reducible refine (HI1.out _).mono ?_; rintro er w1 ⟨rfl, rfl⟩) | (with_reducible refine (HI2.out _).mono ?_; rintro er w1 ⟨rfl, rfl⟩))
   | (go_at_call 116; refine (HVA.out _ HBX.out).mono ?_; rintro er w1 ⟨rfl, hb1⟩; have hk1 := fun o => hb1.cell (p := ⟨w.heap.size, o, none⟩) (by simp; omega); have hk2 := fun o => hb1.cell (p := ⟨w.heap.size + 1, o, none⟩) (by simp); have HB1 := Zd (btr HBX.out hb1); clear hb1))
  all_goals
   go_ret
   refine ⟨ret_bool ?_, by first | exact HB1.out | exact HBX.out⟩
   rw [HV.out]
   have ez : (cap == 0) = decide (cap = 0) := rfl
   first | (simp [*]; done) | (cases v <;> first | contradiction | (simp [*]; done))
theorem kFits1_any (c : Cfg) (x : Chn) (b : Nat) (w : World) (hC : Blk w b 24 (cfgCells c)) (hR : Rd w x.A (ints x.buf)) (hf : x.buf.length <= 1048576) :
  Calls Tryz.prog 110 #[chnV x, .pointer (some ⟨b, 0, none⟩)] w fun e w' => e = .returned (.bool (!chanB c.cap x.p)) /\ Below w.heap.size w w' := by
 have hlt := hC.lt
 have HC1 := Zd (hC.alloc (.cells x.cells.toArray 124))
 have HK := Zd (fun W (hb : Below w.heap.size w W) => kChannel_any c x W (hR.below hb) hf)
 have HB := Zd ((Below.refl w.heap.size w).alloc (Nat.le_refl _) (.cells x.cells.toArray 124))
 unfold Chn.cells at HC1 HB
 unfold cfgCells at HC1
 unfold chnV at HK ⊢
 unfold cfgV at HK
 obtain ⟨f0, f1, f2, f3, f4, f5, f6, f7, f8, f9, f10⟩ := (cfg_blk HC1.out).all
 clear hC hR
 generalize x.buf.length = bl at *
 go_enter Tryz.func110, Tryz.ntmps110
 go_wp2_with (go_at_call 111; refine (HK.out _ HB.out).mono ?_; rintro e w1 ⟨rfl, hb1⟩; have HB1 := Zd (btr HB.out hb1); clear hb1)
 go_ret
 exact ⟨rfl, HB1.out⟩
theorem kFits1_enters : Enters 110 := enters_of Tryz.func110 (by kernel_rfl) (by kernel_rfl)
theorem kWait_any (x : Wtr) (w : World) (hR : Rd w x.A (rows x.cs)) :
  Calls Tryz.prog 114 #[wtrV x] w fun e w' => e = .returned (.bool (waitB x.p)) /\ Below w.heap.size w w' := by
 obtain ⟨on, ticket, seq, A, d, cs⟩ := x
 have HV : Hid (waitB (Wtr.p ⟨on, ticket, seq, A, d, cs⟩) = if on = true then inB ticket 0 4294967295 && inB seq 0 1048575 && inB cs.length 1 3 && cs.all mayC else decide (ticket = 0) && decide (seq = 0) && decide (cs.length = 0)) := Zd rfl
 generalize waitB (Wtr.p ⟨on, ticket, seq, A, d, cs⟩) = R at *
 have HFI := Zd (fun W (hb : Below w.heap.size w W) => pFits_any ⟨3, 0, 0, false, A, cs.length, d⟩ cs W ⟨rfl, hR.below hb⟩)
 have HFQ : Hid (fitsQ (Reqr.p ⟨3, 0, 0, false, A, cs.length, d⟩ cs) = (decide (cs.length <= 3) && cs.all mayC)) := Zd rfl
 rw [HFQ.out] at HFI
 have HI1 := Zd (fun W => in_any ticket 0 4294967295 W)
 have HI2 := Zd (fun W => in_any seq 0 1048575 W)
 have HI3 := Zd (fun W => in_any (cs.length : Int) 1 3 W)
 have HLE : Hid (inB (cs.length : Int) 1 3 = true -> cs.length <= 3) := Zd (fun h => by
  simp only [inB, Bool.and_eq_true, decide_eq_true_eq] at h
  omega)
 clear hR HFQ
 unfold wtrV
 simp only
 generalize cs.length = n at *
 generalize cs.all mayC = ma at *
 generalize inB ticket 0 4294967295 = i1 at *
 generalize inB seq 0 1048575 = i2 at *
 generalize inB (n : Int) 1 3 = i3 at *
 have HBX := Zd ((Below.refl w.heap.size w).alloc (Nat.le_refl _) (.cells #[.bool on, .int .i64 ticket, .int .i64 seq, .slice A n d] 128))
 cases on
 . rw [if_neg (by simp)] at HV
   by_cases h1 : ticket = 0 <;> by_cases h2 : seq = 0 <;> by_cases h3 : n = 0
   all_goals
    first | (have g1 : (ticket == 0) = true := by simp [h1]) | (have g1 : (ticket == 0) = false := by simp [h1])
    first | (have g2 : (seq == 0) = true := by simp [h2]) | (have g2 : (seq == 0) = false := by simp [h2])
    first | (have g3 : ((n : Int) == 0) = true := by simp [h3]) | (have g3 : ((n : Int) == 0) = false := by simp [h3])
    have H1 := Zd h1
    have H2 := Zd h2
    have H3 := Zd h3
    clear h1 h2 h3
    go_enter Tryz.func114, Tryz.ntmps114
    go_wp2_with fail
    go_ret
    refine ⟨ret_bool ?_, HBX.out⟩
    rw [HV.out]
    simp [H1.out, H2.out, H3.out]
 . rw [if_pos rfl] at HV
   go_enter Tryz.func114, Tryz.ntmps114
   go_wp2_with (first
    | (go_at_call 48; first | (with_reducible refine (HI1.out _).mono ?_; rintro er w1 ⟨rfl, rfl⟩) | (with_reducible refine (HI2.out _).mono ?_; rintro er w1 ⟨rfl, rfl⟩) | (with_reducible refine (HI3.out _).mono ?_; rintro er w1 ⟨rfl, rfl⟩))
    | (go_at_call 50; refine (HFI.out _ HBX.out).mono ?_; rintro er w1 ⟨rfl, hb1⟩; have HB1 := Zd (btr HBX.out hb1); clear hb1))
   all_goals
    go_ret
    refine ⟨ret_bool ?_, by first | exact HB1.out | exact HBX.out⟩
    rw [HV.out]
    have := HLE.out
    simp_all
theorem kFits2_any (x : Wtr) (w : World) (hR : Rd w x.A (rows x.cs)) :
  Calls Tryz.prog 113 #[wtrV x] w fun e w' => e = .returned (.bool (!waitB x.p)) /\ Below w.heap.size w w' := by
 have HK := Zd (fun W (hb : Below w.heap.size w W) => kWait_any x W (hR.below hb))
 have HB := Zd ((Below.refl w.heap.size w).alloc (Nat.le_refl _) (.cells x.cells.toArray 128))
 unfold Wtr.cells at HB
 unfold wtrV at HK ⊢
 clear hR
 generalize x.cs.length = bl at *
 go_enter Tryz.func113, Tryz.ntmps113
 go_wp2_with (go_at_call 114; refine (HK.out _ HB.out).mono ?_; rintro e w1 ⟨rfl, hb1⟩; have HB1 := Zd (btr HB.out hb1); clear hb1)
 go_ret
 exact ⟨rfl, HB1.out⟩
theorem kFits2_enters : Enters 113 := enters_of Tryz.func113 (by kernel_rfl) (by kernel_rfl)
theorem fitsH_parts (c : Cfg) (h : Hal) : fitsH c h.p = (chkB c && decide (c.kind = 3) && inB h.ticket 0 4294967295 && decide ((h.chans.length : Int) = c.chans) && decide ((h.waits.length : Int) = c.threads) && dnsB h.done c.threads && !(h.chans.any fun x => !chanB c.cap x.p) && !(h.waits.any fun x => !waitB x.p)) := by
 rw [any_not_all (fun x : Chn => chanB c.cap x.p), any_not_all (fun x : Wtr => waitB x.p)]
 unfold fitsH Hal.p
 simp only [List.length_map, List.all_map]
 rfl
theorem kFitsH_any (c : Cfg) (h : Hal) (w : World) (hc : CfgIn w c) (hx : HalAt w h) :
  Calls Tryz.prog 73 #[cfgV c, halV h] w fun e w' => e = .returned (.bool (fitsH c h.p)) /\ Below w.heap.size w w' := by
 have HV := Zd (fitsH_parts c h)
 have HCH := Zd (fun W (hb : Below w.heap.size w W) (hC : Blk W w.heap.size 24 (cfgCells c)) => HasCh_any h.CA h.cc h.chans 110 #[.pointer (some ⟨w.heap.size, 0, none⟩)] (fun x => !chanB c.cap x.p) W (by have := hx.cf; unfold maxLen; omega) (hx.cr.below hb) kFits1_enters (fun x hxm w' hb' => kFits1_any c x w.heap.size w' (hC.below hb' hC.lt) (((hx.cb x hxm).rd.below hb).below hb') (hx.cb x hxm).few))
 have HWT := Zd (fun W (hb : Below w.heap.size w W) => HasWt_any h.WA h.wc h.waits 113 #[] (fun x => !waitB x.p) W (by have := hx.wr.few; unfold maxLen; omega) (hx.wr.rd.below hb) kFits2_enters (fun x hxm w' hb' => kFits2_any x w' (((hx.wr.cs x hxm).below hb).below hb')))
 have HDN := Zd (fun W (hb : Below w.heap.size w W) => kdone_any h.DA h.dc h.done c.threads W (by have := hx.df; omega) (hx.dr.below hb))
 have HI1 := Zd (fun W => in_any h.ticket 0 4294967295 W)
 obtain ⟨b0, b1, hb0⟩ := box2 w 24 87 (cfgCells c) h.cells
 have HBC := Zd b0
 have HBH := Zd b1
 have HBX := Zd hb0
 clear b0 b1 hb0 hx
 unfold cfgCells Hal.cells at HBC HBH HBX
 unfold cfgCells at HCH
 generalize fitsH c h.p = R at *
 obtain ⟨ticket, CA, cc, chans, WA, wc, waits, DA, dc, dn⟩ := h
 simp only at HV HCH HWT HDN HBH HBX HI1
 unfold halV
 simp only
 generalize chans.any (fun x => !chanB c.cap x.p) = ac at *
 generalize waits.any (fun x => !waitB x.p) = aw at *
 generalize dnsB dn c.threads = db at *
 generalize chans.length = cl at *
 generalize waits.length = wl at *
 generalize dn.length = dl at *
 generalize inB ticket 0 4294967295 = i1 at *
 cases hk : chkB c
 . have HCK := Zd (fun W (hb : Below w.heap.size w W) => Check_no c W (hc.below hb) hk)
   rw [hk] at HV
   unfold cfgV at HCK ⊢
   clear hc hk
   obtain ⟨f0, f1, f2, f3, f4, f5, f6, f7, f8, f9, f10⟩ := (cfg_blk HBC.out).all
   go_enter Tryz.func73, Tryz.ntmps73
   go_wp2_with (first
    | (go_at_call 20; refine (HCK.out _ HBX.out).mono ?_; rintro er w1 ⟨rfl, hb1⟩; have HB1 := Zd (btr HBX.out hb1); clear hb1))
   go_ret
   exact ⟨ret_bool (by rw [HV.out]; rfl), HB1.out⟩
 . have HCK := Zd (fun W (hb : Below w.heap.size w W) => Check_ok c W (hc.below hb) hk)
   rw [hk] at HV
   unfold cfgV at HCK ⊢
   clear hc hk
   obtain ⟨f0, f1, f2, f3, f4, f5, f6, f7, f8, f9, f10⟩ := (cfg_blk HBC.out).all
   have g0 := HBH.out.cell (i := 0) rfl
   have g1 := HBH.out.cell (i := 1) rfl
   have g2 := HBH.out.cell (i := 2) rfl
   have g3 := HBH.out.cell (i := 3) rfl
   have e1 : (c.kind != 3) = !decide (c.kind = 3) := rfl
   have e2 : ((cl : Int) != c.chans) = !decide ((cl : Int) = c.chans) := rfl
   have e3 : ((wl : Int) != c.threads) = !decide ((wl : Int) = c.threads) := rfl
   have hlt0 := HBC.out.lt
   have hlt1 := HBH.out.lt
   go_enter Tryz.func73, Tryz.ntmps73
   go_wp2_with (first
    | (go_at_call 20; refine (HCK.out _ HBX.out).mono ?_; rintro er w1 ⟨rfl, hb1⟩; have hk1 := fun o => hb1.cell (p := ⟨w.heap.size, o, none⟩) hlt0; have hk2 := fun o => hb1.cell (p := ⟨w.heap.size + 1, o, none⟩) hlt1; have HA1 := Zd hb1; have HB1 := Zd (btr HBX.out hb1); clear hb1)
    | (go_at_call 48; refine (HI1.out _).mono ?_; rintro er w2 ⟨rfl, rfl⟩)
    | (go_at_call 108; refine (HDN.out _ HB1.out).mono ?_; rintro er w3 ⟨rfl, hb3⟩; have HA3 := Zd (btr HA1.out hb3); have HB3 := Zd (btr HB1.out hb3); clear hk1 hk2 hb3; have hk1 := fun o => HA3.out.cell (p := ⟨w.heap.size, o, none⟩) hlt0; have hk2 := fun o => HA3.out.cell (p := ⟨w.heap.size + 1, o, none⟩) hlt1)
    | (go_at_call 109; refine (HCH.out _ HB3.out (HBC.out.below HA3.out HBC.out.lt)).mono ?_; rintro er w4 ⟨rfl, hb4⟩; have HA4 := Zd (btr HA3.out hb4); have HB4 := Zd (btr HB3.out hb4); clear hk1 hk2 hb4; have hk1 := fun o => HA4.out.cell (p := ⟨w.heap.size, o, none⟩) hlt0; have hk2 := fun o => HA4.out.cell (p := ⟨w.heap.size + 1, o, none⟩) hlt1)
    | (go_at_call 112; refine (HWT.out _ HB4.out).mono ?_; rintro er w5 ⟨rfl, hb5⟩; have HB5 := Zd (btr HB4.out hb5); clear hb5))
   all_goals
    go_ret
    refine ⟨ret_bool ?_, by first | exact HB5.out | exact HB4.out | exact HB3.out | exact HB1.out⟩
    rw [HV.out]
    first | (simp [*]; done) | (cases db <;> cases ac <;> cases aw <;> first | contradiction | (simp [*]; done))
theorem or_low (a b P : Int) (k : Nat) (hP : P = ((2 ^ k : Nat) : Int)) (ha : 0 <= a) (hb : 0 <= b) (hl : a < P) (h : a + b * P < 18446744073709551616) : bits BinOp.or IntKind.u64 a (b * P) = a + b * P := by
 obtain ⟨x, rfl⟩ : ∃ n : Nat, a = n := ⟨a.toNat, by omega⟩
 obtain ⟨y, rfl⟩ : ∃ n : Nat, b = n := ⟨b.toNat, by omega⟩
 subst hP
 rw [<- Int.natCast_mul] at h ⊢
 have hxy : x + y * 2 ^ k < 18446744073709551616 := by omega
 have hx : x < 2 ^ k := by omega
 rw [bits_or_u64_nat _ _ (by omega) (by omega)]
 have : x ||| y * 2 ^ k = x + y * 2 ^ k := by
  rw [Nat.mul_comm, Nat.or_comm, <- Nat.two_pow_add_eq_or_of_lt hx y, Nat.add_comm]
 rw [this, Int.natCast_add]
theorem kflag_any (b : Bool) (w : World) : Calls Tryz.prog 76 #[.bool b] w fun e w' => e = .returned (.int .u64 (bitI b)) /\ w' = w := by
 cases b
 all_goals
  go_enter Tryz.func76, Tryz.ntmps76
  go_wp2_with fail
  go_ret
  exact ⟨rfl, rfl⟩
theorem bitI_rng (b : Bool) : 0 <= bitI b /\ bitI b <= 1 := by cases b <;> decide
theorem head_parts {g c u l n : Int} (h1 : 0 <= g /\ g <= 4095) (h2 : 0 <= c /\ c <= 15) (h3 : 0 <= u /\ u <= 1) (h4 : 0 <= l /\ l <= 1) (h5 : 0 <= n /\ n <= 4095) :
  bits BinOp.or IntKind.u64 g (c * 4096) = g + c * 4096 /\
  bits BinOp.or IntKind.u64 (g + c * 4096) (u * 65536) = g + c * 4096 + u * 65536 /\
  bits BinOp.or IntKind.u64 (g + c * 4096 + u * 65536) (l * 131072) = g + c * 4096 + u * 65536 + l * 131072 /\
  bits BinOp.or IntKind.u64 (g + c * 4096 + u * 65536 + l * 131072) (n * 1048576) = g + c * 4096 + u * 65536 + l * 131072 + n * 1048576 :=
 ⟨or_low g c 4096 12 (by decide +kernel) (by omega) (by omega) (by omega) (by omega),
  or_low (g + c * 4096) u 65536 16 (by decide +kernel) (by omega) (by omega) (by omega) (by omega),
  or_low (g + c * 4096 + u * 65536) l 131072 17 (by decide +kernel) (by omega) (by omega) (by omega) (by omega),
  or_low (g + c * 4096 + u * 65536 + l * 131072) n 1048576 20 (by decide +kernel) (by omega) (by omega) (by omega) (by omega)⟩
theorem khead_any (x : Chn) (w : World) (h1 : 0 <= x.gen /\ x.gen <= 4095) (h2 : 0 <= x.cap /\ x.cap <= 15) (h5 : x.buf.length <= 4095) :
  Calls Tryz.prog 75 #[chnV x] w fun e w' => e = .returned (.int .u64 (headI x.p)) /\ Below w.heap.size w w' := by
 obtain ⟨gen, cap, used, closed, A, d, buf⟩ := x
 simp only at h1 h2 h5
 have h3 := bitI_rng used
 have h4 := bitI_rng closed
 have HV : Hid (headI (Chn.p ⟨gen, cap, used, closed, A, d, buf⟩) = gen + cap * 4096 + bitI used * 65536 + bitI closed * 131072 + (buf.length : Int) * 1048576) := Zd (by
  show gen + 4096 * cap + 65536 * bitI used + 131072 * bitI closed + 1048576 * (buf.length : Int) = _
  omega)
 generalize headI (Chn.p ⟨gen, cap, used, closed, A, d, buf⟩) = R at *
 unfold chnV
 simp only
 generalize buf.length = n at *
 obtain ⟨o1, o2, o3, o4⟩ := head_parts (n := (n : Int)) h1 h2 h3 h4 ⟨by omega, by omega⟩
 have HF1 := Zd (fun W => kflag_any used W)
 have HF2 := Zd (fun W => kflag_any closed W)
 generalize bitI used = u at *
 generalize bitI closed = l at *
 have hn : (n : Int) <= 4095 := by omega
 obtain ⟨a1, a2⟩ := h1
 obtain ⟨a3, a4⟩ := h2
 obtain ⟨a5, a6⟩ := h3
 obtain ⟨a7, a8⟩ := h4
 clear h5
 have HB := Zd ((Below.refl w.heap.size w).alloc (Nat.le_refl _) (.cells #[.int .i64 gen, .int .i64 cap, .bool used, .bool closed, .slice A n d] 124))
 go_enter Tryz.func75, Tryz.ntmps75
 go_upto_region 1 with fail
 go_quiet (first | exact Calls.quiet_of_same (HF1.out _) | exact Calls.quiet_of_same (HF2.out _))
 go_wp2_with fail
 go_ret
 exact ⟨by rw [HV.out]; rfl, Below.drewN' HB.out _⟩
def headC (q : ReqP) : Int := q.kind + 256 * q.cs.length + 4096 * bitI q.dflt + 65536 * q.arg + 4294967296 * q.value
def callI (q : ReqP) (phase : Int) : List Int := if fitsQ q = true /\ inB phase 0 4294967295 = true then headC q :: (rowI (q.cs.map caseI) 3 ++ [phase]) else []
theorem or_mid (lo hi : Int) (h1 : 0 <= lo) (h2 : lo < 4096) (h3 : 0 <= hi) (h4 : hi < 281474976710656) : bits BinOp.or IntKind.u64 (lo + hi * 65536) 4096 = lo + hi * 65536 + 4096 := by
 obtain ⟨x, rfl⟩ : ∃ n : Nat, lo = n := ⟨lo.toNat, by omega⟩
 obtain ⟨y, rfl⟩ : ∃ n : Nat, hi = n := ⟨hi.toNat, by omega⟩
 have e : ((x : Int) + (y : Int) * 65536) = ((x + y * 65536 : Nat) : Int) := by omega
 rw [e, show (4096 : Int) = ((4096 : Nat) : Int) from rfl, bits_or_u64_nat _ _ (by omega) (by omega)]
 have h5 : x + y * 65536 = 2 ^ 16 * y ||| x := by
  rw [<- Nat.two_pow_add_eq_or_of_lt (show x < 2 ^ 16 by omega) y]; omega
 have h6 : x ||| 4096 = x + 4096 := by
  rw [Nat.or_comm, show (4096 : Nat) = 2 ^ 12 * 1 from rfl, <- Nat.two_pow_add_eq_or_of_lt (show x < 2 ^ 12 by omega) 1]; omega
 have h7 : (x + y * 65536) ||| 4096 = x + y * 65536 + 4096 := by
  rw [h5, Nat.or_assoc, h6, <- Nat.two_pow_add_eq_or_of_lt (show x + 4096 < 2 ^ 16 by omega) y, <- Nat.two_pow_add_eq_or_of_lt (show x < 2 ^ 16 by omega) y]; omega
 rw [h7]; omega
theorem callh_parts {k n a v : Int} (h1 : 1 <= k /\ k <= 9) (h2 : 0 <= n /\ n <= 3) (h3 : 0 <= a /\ a <= 65535) (h4 : 0 <= v /\ v <= 4294967295) :
  bits BinOp.or IntKind.u64 k (n * 256) = k + n * 256 /\
  bits BinOp.or IntKind.u64 (k + n * 256) (a * 65536) = k + n * 256 + a * 65536 /\
  bits BinOp.or IntKind.u64 (k + n * 256 + a * 65536) (v * 4294967296) = k + n * 256 + a * 65536 + v * 4294967296 /\
  bits BinOp.or IntKind.u64 (k + n * 256 + a * 65536 + v * 4294967296) 4096 = k + n * 256 + a * 65536 + v * 4294967296 + 4096 := by
 refine ⟨or_low k n 256 8 (by decide +kernel) (by omega) (by omega) (by omega) (by omega), or_low (k + n * 256) a 65536 16 (by decide +kernel) (by omega) (by omega) (by omega) (by omega),
  or_low (k + n * 256 + a * 65536) v 4294967296 32 (by decide +kernel) (by omega) (by omega) (by omega) (by omega), ?_⟩
 have := or_mid (k + n * 256) (a + v * 65536) (by omega) (by omega) (by omega) (by omega)
 have e : k + n * 256 + (a + v * 65536) * 65536 = k + n * 256 + a * 65536 + v * 4294967296 := by omega
 rw [e] at this
 exact this
theorem case_parts {d h v : Int} (h1 : 0 <= d /\ d <= 255) (h2 : 0 <= h /\ h <= 65535) (h3 : 0 <= v /\ v <= 4294967295) :
  bits BinOp.or IntKind.u64 d (h * 256) = d + h * 256 /\ bits BinOp.or IntKind.u64 (d + h * 256) (v * 4294967296) = d + h * 256 + v * 4294967296 :=
 ⟨or_low d h 256 8 (by decide +kernel) (by omega) (by omega) (by omega) (by omega), or_low (d + h * 256) v 4294967296 32 (by decide +kernel) (by omega) (by omega) (by omega) (by omega)⟩
theorem mayC_rng {x : Cse} (h : mayC x = true) : (0 <= x.dir /\ x.dir <= 255) /\ (0 <= x.handle /\ x.handle <= 65535) /\ (0 <= x.value /\ x.value <= 4294967295) := by
 simp only [mayC, inB, Bool.and_eq_true, Bool.or_eq_true, decide_eq_true_eq, beq_iff_eq] at h
 omega
theorem rowI_fill (l : List Int) (n : Nat) (h : l.length <= n) : rowI l n = l ++ List.replicate (n - l.length) 0 := by
 refine List.ext_getElem (by rw [rowI_len, List.length_append, List.length_replicate]; omega) (fun i h1 h2 => ?_)
 have e : (rowI l n)[i] = if i < l.length then l.getD i 0 else 0 := by simp [rowI]
 rw [e]
 by_cases hi : i < l.length
 . rw [if_pos hi, List.getElem_append_left hi]
   simp [List.getD, hi]
 . rw [if_neg hi, List.getElem_append_right (by omega), List.getElem_replicate]
theorem pCall_any (q : Reqr) (l : List Cse) (phase : Int) (w : World) (h : ReqAt w q l) :
  Calls Tryz.prog 77 #[reqV q, .int .i64 phase] w (RetWords (callI (q.p l) phase) w) := by
 have HFI := Zd (fun W (hb : Below w.heap.size w W) => pFits_any q l W (h.below hb))
 have HRD := Zd h.rd
 have HLN := Zd h.len
 have HP := Zd (fun W => pfits32 phase W)
 have HB0 := Zd ((Below.refl w.heap.size w).alloc (Nat.le_refl _) (.cells #[.int .i64 q.kind, .int .i64 q.arg, .int .i64 q.value, .bool q.dflt, .slice q.A q.n q.c] 40))
 have HQ0 : Hid (Blk (w.alloc (.cells #[.int .i64 q.kind, .int .i64 q.arg, .int .i64 q.value, .bool q.dflt, .slice q.A q.n q.c] 40)) w.heap.size 40 q.cells) := Zd (blk_new rfl)
 cases hf : fitsQ (q.p l)
 . have HV : Hid (callI (q.p l) phase = []) := Zd (by unfold callI; rw [if_neg (by rw [hf]; simp)])
   rw [HV.out]
   rw [hf] at HFI
   clear hf h
   unfold reqV at HFI ⊢
   go_enter Tryz.func77, Tryz.ntmps77
   go_wp2_with (go_at_call 50; refine (HFI.out _ HB0.out).mono ?_; rintro er w1 ⟨rfl, hb1⟩; have HB1 := Zd (btr HB0.out hb1); clear hb1)
   go_ret
   exact ⟨none, 0, rfl, own_nil _ _ _ _, HB1.out⟩
 cases hp : inB phase 0 4294967295
 . have HV : Hid (callI (q.p l) phase = []) := Zd (by unfold callI; rw [if_neg (by rw [hp]; simp)])
   rw [HV.out]
   rw [hf] at HFI
   rw [hp] at HP
   clear hf h hp
   unfold reqV at HFI ⊢
   go_enter Tryz.func77, Tryz.ntmps77
   go_wp2_with (first
    | (go_at_call 50; refine (HFI.out _ HB0.out).mono ?_; rintro er w1 ⟨rfl, hb1⟩; have HB1 := Zd (btr HB0.out hb1); clear hb1)
    | (go_at_call 87; refine (HP.out _).mono ?_; rintro er w2 ⟨rfl, rfl⟩))
   go_ret
   exact ⟨none, 0, rfl, own_nil _ _ _ _, HB1.out⟩
 . have HV : Hid (callI (q.p l) phase = headC (q.p l) :: (rowI (l.map caseI) 3 ++ [phase])) := Zd (by unfold callI; rw [if_pos ⟨hf, hp⟩]; rfl)
   rw [HV.out]
   rw [hf] at HFI
   rw [hp] at HP
   have hq := hf
   unfold fitsQ at hq
   simp only [Bool.and_eq_true, List.all_eq_true, decide_eq_true_eq] at hq
   obtain ⟨⟨⟨⟨q1, q2⟩, q3⟩, q4⟩, q5⟩ := hq
   have HMY := Zd (show ∀ x ∈ l, mayC x = true from q5)
   have hn : q.n <= 3 := by rw [<- HLN.out]; exact q4
   have hh : headC (q.p l) = q.kind + (q.n : Int) * 256 + q.arg * 65536 + q.value * 4294967296 + 4096 * bitI q.dflt := by
    show q.kind + 256 * (l.length : Int) + 4096 * bitI q.dflt + 65536 * q.arg + 4294967296 * q.value = _
    rw [HLN.out]; omega
   have HH := Zd hh
   simp only [inB, Bool.and_eq_true, decide_eq_true_eq] at q1 q2 q3 hp
   obtain ⟨kind, arg, value, dflt, A, n, c⟩ := q
   simp only [Reqr.p] at q1 q2 q3 hn HLN HRD HB0
   obtain ⟨o1, o2, o3, o4⟩ := callh_parts (n := (n : Int)) q1 ⟨by omega, by omega⟩ q2 q3
   have hn1 : (n : Int) <= 3 := by omega
   obtain ⟨a1, a2⟩ := q1
   obtain ⟨a3, a4⟩ := q2
   obtain ⟨a5, a6⟩ := q3
   obtain ⟨a7, a8⟩ := hp
   clear hf h q4 q5 hh
   unfold reqV at HFI ⊢
   generalize headC (Reqr.p ⟨kind, arg, value, dflt, A, n, c⟩ l) = hd at *
   have HTK : Hid (∀ k, k < n -> (l.take (k + 1)).map caseI = (l.take k).map caseI ++ [caseI (l.getD k Cse.none)]) := Zd (fun k hk => by
    have hk' : k < l.length := by rw [HLN.out]; exact hk
    rw [List.take_succ_eq_append_getElem hk', List.map_append]
    simp [List.getD, hk'])
   have HTL : Hid ((l.take n).map caseI = l.map caseI) := Zd (by rw [List.take_of_length_le (by rw [HLN.out]; exact Nat.le_refl _)])
   have HFL : Hid (hd :: (rowI (l.map caseI) 3 ++ [phase]) = hd :: (l.map caseI ++ List.replicate (3 - n) 0) ++ [phase]) := Zd (by
    rw [rowI_fill _ _ (by rw [List.length_map, HLN.out]; exact hn), List.length_map, HLN.out]; rfl)
   cases dflt
   . have o3' : bits BinOp.or IntKind.u64 (kind + (n : Int) * 256 + arg * 65536) (value * 4294967296) = hd := by
      rw [o3, HH.out]; simp [bitI]
     clear o3 o4
     go_enter Tryz.func77, Tryz.ntmps77
     go_upto_region 7 with (first
      | (go_at_call 50; refine (HFI.out _ HB0.out).mono ?_; rintro er w1 ⟨rfl, hb1⟩; have HB1 := Zd (btr HB0.out hb1); have HQ1 := Zd (HQ0.out.below hb1 HQ0.out.lt); clear hb1; obtain ⟨g0, g1, g2, g3, g4⟩ := reqBox HQ1.out)
      | (go_at_call 87; refine (HP.out _).mono ?_; rintro er w2 ⟨rfl, rfl⟩))
     clear g0 g1 g2 g3 g4
     have HO2 : Hid ((w1.alloc (.cells #[.int .u64 hd] 95)).ownsRow w.heap.size 95 1 (.slice (some ⟨w1.heap.size, 0, none⟩) 1 1) 1 (words [hd])) := Zd (own_blk1 (cs := words [hd]) (blk_new rfl) HB1.out.size rfl (by decide))
     have HQ2 := Zd (HQ1.out.below ((Below.refl w1.heap.size w1).alloc (Nat.le_refl _) (.cells #[.int .u64 hd] 95)) HQ1.out.lt)
     have HB2 := Zd (HB1.out.alloc HB1.out.size (.cells #[.int .u64 hd] 95))
     generalize (some (⟨w1.heap.size, 0, none⟩ : Addr)) = A0 at *
     generalize w1.alloc (.cells #[.int .u64 hd] 95) = W2 at *
     have g4 : W2.cell? ⟨w.heap.size, 4, none⟩ = some (.slice A n c) := HQ2.out.cell (i := 4) rfl
     clear HQ1 HB1 HQ0 HB0 o1 o2
     go_upto_region 8 with fail
     clear g4
     go_loopg [6, 45] n (fun gg out i wr => ∃ (k : Nat) (A1 : Option Addr) (c1 : Nat), k <= n /\ gg = n - k /\ i = .int .i64 k /\ out = .slice A1 (1 + k) c1 /\ wr.ownsRow w.heap.size 95 1 (.slice A1 (1 + k) c1) (1 + k) (words (hd :: (l.take k).map caseI)) /\ Below w.heap.size w wr)
     case atStart => exact ⟨0, A0, 1, Nat.zero_le _, rfl, rfl, rfl, HO2.out, HB2.out⟩
     case round =>
      obtain ⟨k, A1, c1, hk, hg, rfl, rfl, how, hb⟩ := hrel
      have HG := Zd hg
      have HB := Zd hb
      have HO := Zd how
      clear hg hb how HO2 HB2 HQ2
      by_cases hlt : k < n
      . have HRW := Zd (HTK.out k hlt)
        obtain ⟨b, o, rfl, hbl, hc⟩ := (HRD.out.below HB.out).at_ (by rw [rows_length]; simp only [Cellful.s]; have := HLN.out; omega)
        obtain ⟨x0, x1, x2⟩ := cse_cells (k := k) (x := l.getD k Cse.none) hc (by rw [HLN.out]; exact hlt) rfl
        have hm := HMY.out (l.getD k Cse.none) (mem_getD (by rw [HLN.out]; exact hlt))
        generalize l.getD k Cse.none = x at *
        have hr := mayC_rng hm
        have hci : caseI x = x.dir + x.handle * 256 + x.value * 4294967296 := by unfold caseI; omega
        obtain ⟨p1, p2⟩ := case_parts hr.1 hr.2.1 hr.2.2
        rw [<- hci] at p2
        obtain ⟨⟨r0, r1⟩, ⟨r2, r3⟩, r4, r5⟩ := hr
        generalize caseI x = ci at *
        have hbs := HB.out.size
        clear hc hm hci
        go_wp2_with (at_builtin; refine wpList_app rfl (.tmp 49) (.tmp 63) 53 95 rfl w.heap.size (.int .u64 0) 1 8 Tryz.underlying53 CloneW_info rfl (by decide) A1 (1 + k) c1 _ rfl ((HO.out.alloc _).alloc _) (some ⟨wr.heap.size + 1, 0, none⟩) 1 1 (words [ci]) rfl (by simp) rfl (blk_new (by simp)).rd (words_one _) (1 + (k + 1)) (by omega) (words (hd :: (l.take (k + 1)).map caseI)) (by rw [HRW.out, wordsApp]; rfl) (by unfold maxLen; omega) (by omega) (Nat.le_trans hbs (by simp; omega)) ?_; intro A2 c2 w2 hown2 hg2 hb2)
        go_roundg (n - (k + 1))
        case measure => rw [HG.out]; omega
        case rel => exact ⟨k + 1, A2, c2, by omega, rfl, by go_num, rfl, hown2, ((HB.out.alloc HB.out.size _).alloc (Nat.le_trans HB.out.size (by simp)) _).trans hb2⟩
      . obtain rfl : k = n := by omega
        have HO3 := Zd (show wr.ownsRow w.heap.size 95 1 (.slice A1 (1 + k) c1) (1 + k) (words (hd :: (l.map caseI ++ List.replicate 0 0))) from by have := HO.out; rw [HTL.out] at this; simpa using this)
        clear HO HG
        go_upto_region 12 with fail
        go_loopg [6] (3 - k) (fun gg out wr => ∃ (j : Nat) (A1 : Option Addr) (c1 : Nat), k + j <= 3 /\ gg = 3 - (k + j) /\ out = .slice A1 (1 + (k + j)) c1 /\ wr.ownsRow w.heap.size 95 1 (.slice A1 (1 + (k + j)) c1) (1 + (k + j)) (words (hd :: (l.map caseI ++ List.replicate j 0))) /\ Below w.heap.size w wr)
        case atStart => exact ⟨0, A1, c1, by omega, rfl, rfl, HO3.out, HB.out⟩
        case round =>
         obtain ⟨j, A3, c3, hj, hg, rfl, how, hb⟩ := hrel
         have HG := Zd hg
         have HBB := Zd hb
         have HO := Zd how
         have hbs := hb.size
         clear hg hb how HO3
         by_cases hlt : k + j < 3
         . have q1 : ((1 + (k + j) : Nat) : Int) < 4 := by omega
           go_wp2_with (at_builtin; refine wpList_app rfl (.tmp 69) (.tmp 70) 53 95 rfl w.heap.size (.int .u64 0) 1 8 Tryz.underlying53 CloneW_info rfl (by decide) A3 (1 + (k + j)) c3 _ rfl (HO.out.alloc _) (some ⟨wr.heap.size, 0, none⟩) 1 1 (words [0]) rfl (by simp) rfl (blk_new rfl).rd (words_one _) (1 + (k + (j + 1))) (by omega) (words (hd :: (l.map caseI ++ List.replicate (j + 1) 0))) (by rw [List.replicate_succ', <- List.append_assoc, wordsApp]; rfl) (by unfold maxLen; omega) (by omega) (Nat.le_trans hbs (by simp)) ?_; intro A2 c2 w2 hown2 hg2 hb2)
           go_roundg (3 - (k + (j + 1)))
           case measure => rw [HG.out]; omega
           case rel => exact ⟨j + 1, A2, c2, by omega, rfl, rfl, hown2, (HBB.out.alloc HBB.out.size _).trans hb2⟩
         . have q1 : ¬ ((1 + (k + j) : Nat) : Int) < 4 := by omega
           have e4 : 1 + (k + j) = 4 := by omega
           have HE : Hid (hd :: (rowI (l.map caseI) 3 ++ [phase]) = hd :: (l.map caseI ++ List.replicate j 0) ++ [phase]) := Zd (by rw [HFL.out, show 3 - k = j by omega])
           rw [e4] at HO q1
           rw [e4]
           go_wp2_with (at_builtin; refine wpList_app rfl (.tmp 72) (.tmp 75) 53 95 rfl w.heap.size (.int .u64 0) 1 8 Tryz.underlying53 CloneW_info rfl (by decide) A3 4 c3 _ rfl (HO.out.alloc _) (some ⟨wr.heap.size, 0, none⟩) 1 1 (words [phase]) rfl (by simp) rfl (blk_new rfl).rd (words_one _) 5 (by omega) (words (hd :: (l.map caseI ++ List.replicate j 0) ++ [phase])) (by rw [wordsApp]) (by unfold maxLen; omega) (by omega) (Nat.le_trans hbs (by simp)) ?_; intro A2 c2 w2 hown2 hg2 hb2)
           go_ret
           refine ⟨A2, c2, ?_, ?_, (HBB.out.alloc HBB.out.size _).trans hb2⟩
           . rw [HE.out]
             have : (hd :: (l.map caseI ++ List.replicate j 0) ++ [phase]).length = 5 := by
              simp; have := HLN.out; omega
             rw [this]
             rfl
           . rw [HE.out]
             have : (hd :: (l.map caseI ++ List.replicate j 0) ++ [phase]).length = 5 := by
              simp; have := HLN.out; omega
             rw [this]
             exact hown2
   . have o4' : bits BinOp.or IntKind.u64 (kind + (n : Int) * 256 + arg * 65536 + value * 4294967296) 4096 = hd := by
      rw [o4, HH.out]; simp [bitI]
     clear o4
     go_enter Tryz.func77, Tryz.ntmps77
     go_upto_region 7 with (first
      | (go_at_call 50; refine (HFI.out _ HB0.out).mono ?_; rintro er w1 ⟨rfl, hb1⟩; have HB1 := Zd (btr HB0.out hb1); have HQ1 := Zd (HQ0.out.below hb1 HQ0.out.lt); clear hb1; obtain ⟨g0, g1, g2, g3, g4⟩ := reqBox HQ1.out)
      | (go_at_call 87; refine (HP.out _).mono ?_; rintro er w2 ⟨rfl, rfl⟩))
     clear g0 g1 g2 g3 g4
     have HO2 : Hid ((w1.alloc (.cells #[.int .u64 hd] 95)).ownsRow w.heap.size 95 1 (.slice (some ⟨w1.heap.size, 0, none⟩) 1 1) 1 (words [hd])) := Zd (own_blk1 (cs := words [hd]) (blk_new rfl) HB1.out.size rfl (by decide))
     have HQ2 := Zd (HQ1.out.below ((Below.refl w1.heap.size w1).alloc (Nat.le_refl _) (.cells #[.int .u64 hd] 95)) HQ1.out.lt)
     have HB2 := Zd (HB1.out.alloc HB1.out.size (.cells #[.int .u64 hd] 95))
     generalize (some (⟨w1.heap.size, 0, none⟩ : Addr)) = A0 at *
     generalize w1.alloc (.cells #[.int .u64 hd] 95) = W2 at *
     have g4 : W2.cell? ⟨w.heap.size, 4, none⟩ = some (.slice A n c) := HQ2.out.cell (i := 4) rfl
     clear HQ1 HB1 HQ0 HB0 o1 o2 o3
     go_upto_region 8 with fail
     clear g4
     go_loopg [6, 45] n (fun gg out i wr => ∃ (k : Nat) (A1 : Option Addr) (c1 : Nat), k <= n /\ gg = n - k /\ i = .int .i64 k /\ out = .slice A1 (1 + k) c1 /\ wr.ownsRow w.heap.size 95 1 (.slice A1 (1 + k) c1) (1 + k) (words (hd :: (l.take k).map caseI)) /\ Below w.heap.size w wr)
     case atStart => exact ⟨0, A0, 1, Nat.zero_le _, rfl, rfl, rfl, HO2.out, HB2.out⟩
     case round =>
      obtain ⟨k, A1, c1, hk, hg, rfl, rfl, how, hb⟩ := hrel
      have HG := Zd hg
      have HB := Zd hb
      have HO := Zd how
      clear hg hb how HO2 HB2 HQ2
      by_cases hlt : k < n
      . have HRW := Zd (HTK.out k hlt)
        obtain ⟨b, o, rfl, hbl, hc⟩ := (HRD.out.below HB.out).at_ (by rw [rows_length]; simp only [Cellful.s]; have := HLN.out; omega)
        obtain ⟨x0, x1, x2⟩ := cse_cells (k := k) (x := l.getD k Cse.none) hc (by rw [HLN.out]; exact hlt) rfl
        have hm := HMY.out (l.getD k Cse.none) (mem_getD (by rw [HLN.out]; exact hlt))
        generalize l.getD k Cse.none = x at *
        have hr := mayC_rng hm
        have hci : caseI x = x.dir + x.handle * 256 + x.value * 4294967296 := by unfold caseI; omega
        obtain ⟨p1, p2⟩ := case_parts hr.1 hr.2.1 hr.2.2
        rw [<- hci] at p2
        obtain ⟨⟨r0, r1⟩, ⟨r2, r3⟩, r4, r5⟩ := hr
        generalize caseI x = ci at *
        have hbs := HB.out.size
        clear hc hm hci
        go_wp2_with (at_builtin; refine wpList_app rfl (.tmp 49) (.tmp 63) 53 95 rfl w.heap.size (.int .u64 0) 1 8 Tryz.underlying53 CloneW_info rfl (by decide) A1 (1 + k) c1 _ rfl ((HO.out.alloc _).alloc _) (some ⟨wr.heap.size + 1, 0, none⟩) 1 1 (words [ci]) rfl (by simp) rfl (blk_new (by simp)).rd (words_one _) (1 + (k + 1)) (by omega) (words (hd :: (l.take (k + 1)).map caseI)) (by rw [HRW.out, wordsApp]; rfl) (by unfold maxLen; omega) (by omega) (Nat.le_trans hbs (by simp; omega)) ?_; intro A2 c2 w2 hown2 hg2 hb2)
        go_roundg (n - (k + 1))
        case measure => rw [HG.out]; omega
        case rel => exact ⟨k + 1, A2, c2, by omega, rfl, by go_num, rfl, hown2, ((HB.out.alloc HB.out.size _).alloc (Nat.le_trans HB.out.size (by simp)) _).trans hb2⟩
      . obtain rfl : k = n := by omega
        have HO3 := Zd (show wr.ownsRow w.heap.size 95 1 (.slice A1 (1 + k) c1) (1 + k) (words (hd :: (l.map caseI ++ List.replicate 0 0))) from by have := HO.out; rw [HTL.out] at this; simpa using this)
        clear HO HG
        go_upto_region 12 with fail
        go_loopg [6] (3 - k) (fun gg out wr => ∃ (j : Nat) (A1 : Option Addr) (c1 : Nat), k + j <= 3 /\ gg = 3 - (k + j) /\ out = .slice A1 (1 + (k + j)) c1 /\ wr.ownsRow w.heap.size 95 1 (.slice A1 (1 + (k + j)) c1) (1 + (k + j)) (words (hd :: (l.map caseI ++ List.replicate j 0))) /\ Below w.heap.size w wr)
        case atStart => exact ⟨0, A1, c1, by omega, rfl, rfl, HO3.out, HB.out⟩
        case round =>
         obtain ⟨j, A3, c3, hj, hg, rfl, how, hb⟩ := hrel
         have HG := Zd hg
         have HBB := Zd hb
         have HO := Zd how
         have hbs := hb.size
         clear hg hb how HO3
         by_cases hlt : k + j < 3
         . have q1 : ((1 + (k + j) : Nat) : Int) < 4 := by omega
           go_wp2_with (at_builtin; refine wpList_app rfl (.tmp 69) (.tmp 70) 53 95 rfl w.heap.size (.int .u64 0) 1 8 Tryz.underlying53 CloneW_info rfl (by decide) A3 (1 + (k + j)) c3 _ rfl (HO.out.alloc _) (some ⟨wr.heap.size, 0, none⟩) 1 1 (words [0]) rfl (by simp) rfl (blk_new rfl).rd (words_one _) (1 + (k + (j + 1))) (by omega) (words (hd :: (l.map caseI ++ List.replicate (j + 1) 0))) (by rw [List.replicate_succ', <- List.append_assoc, wordsApp]; rfl) (by unfold maxLen; omega) (by omega) (Nat.le_trans hbs (by simp)) ?_; intro A2 c2 w2 hown2 hg2 hb2)
           go_roundg (3 - (k + (j + 1)))
           case measure => rw [HG.out]; omega
           case rel => exact ⟨j + 1, A2, c2, by omega, rfl, rfl, hown2, (HBB.out.alloc HBB.out.size _).trans hb2⟩
         . have q1 : ¬ ((1 + (k + j) : Nat) : Int) < 4 := by omega
           have e4 : 1 + (k + j) = 4 := by omega
           have HE : Hid (hd :: (rowI (l.map caseI) 3 ++ [phase]) = hd :: (l.map caseI ++ List.replicate j 0) ++ [phase]) := Zd (by rw [HFL.out, show 3 - k = j by omega])
           rw [e4] at HO q1
           rw [e4]
           go_wp2_with (at_builtin; refine wpList_app rfl (.tmp 72) (.tmp 75) 53 95 rfl w.heap.size (.int .u64 0) 1 8 Tryz.underlying53 CloneW_info rfl (by decide) A3 4 c3 _ rfl (HO.out.alloc _) (some ⟨wr.heap.size, 0, none⟩) 1 1 (words [phase]) rfl (by simp) rfl (blk_new rfl).rd (words_one _) 5 (by omega) (words (hd :: (l.map caseI ++ List.replicate j 0) ++ [phase])) (by rw [wordsApp]) (by unfold maxLen; omega) (by omega) (Nat.le_trans hbs (by simp)) ?_; intro A2 c2 w2 hown2 hg2 hb2)
           go_ret
           refine ⟨A2, c2, ?_, ?_, (HBB.out.alloc HBB.out.size _).trans hb2⟩
           . rw [HE.out]
             have : (hd :: (l.map caseI ++ List.replicate j 0) ++ [phase]).length = 5 := by
              simp; have := HLN.out; omega
             rw [this]
             rfl
           . rw [HE.out]
             have : (hd :: (l.map caseI ++ List.replicate j 0) ++ [phase]).length = 5 := by
              simp; have := HLN.out; omega
             rw [this]
             exact hown2
end Go.Proofs.YtieglgahfeecbaaGreatDoor
