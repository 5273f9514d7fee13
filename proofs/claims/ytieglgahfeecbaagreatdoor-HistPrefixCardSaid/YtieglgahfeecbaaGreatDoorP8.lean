/- hist: states made anew: what lies under them stays while their row grows. -/
import Derived.Test.YtieglgahfeecbaaGreatDoorP3
import Derived.Test.YtieglgahfeecbaaGreatDoorP7
set_option maxHeartbeats 64000000
set_option maxRecDepth 100000
namespace Go.Proofs.YtieglgahfeecbaaGreatDoor
open Go.RowKit Go.Sort
attribute [local go_sem ↓] Go.wp_at_zero Go.wp_at_succ
def RetWordsO (o : Option (List Int)) (w : World) (e : Ending) (w' : World) : Prop :=
 ∃ A c0, e = .returned (.tuple #[.slice A (o.getD []).length c0, .bool o.isSome]) /\ w'.ownsRow w.heap.size 95 1 (.slice A (o.getD []).length c0) (o.getD []).length (words (o.getD [])) /\ Below w.heap.size w w'
def cellsO (c : Cfg) (L : List Int) (t seq : Int) (q : ReqP) : Option (List Int) := (readC c L).map fun x => putC c (applyC (decide (c.kind = 2)) x t seq q)
theorem oCells_any (c : Cfg) (A : Option Addr) (c0 : Nat) (L : List Int) (t seq : Int) (q : Reqr) (l : List Cse) (w : World) (hk1 : c.kind = 1) (hc : CfgIn w c) (hR : Rd w A (words L)) (hL : L.length <= c0) (hbig : ∀ x ∈ L, 0 <= x /\ x < 18446744073709551616) :
  Calls Tryz.prog 105 #[cfgV c, .slice A L.length c0, .int .i64 t, .int .i64 seq, reqV q] w (RetWordsO (cellsO c L t seq (q.p l)) w) := by
 obtain ⟨b0, b1, hb0⟩ := box2 w 24 40 (cfgCells c) q.cells
 have HBC := Zd (cfg_blk b0)
 have HBQ := Zd b1
 have HBX := Zd hb0
 clear b0 b1 hb0
 unfold cfgCells Reqr.cells at HBC HBQ HBX
 have HRD := Zd (fun W (hb : Below w.heap.size w W) => kReadC_any c A c0 L W (hc.below hb) (hR.below hb) hL hbig)
 have HAP := Zd (fun W (x : Clr) (hx : ClrAt W x) (h1 : -1 <= x.cap) => fApply_any x t seq q l W hx h1)
 have HPC := Zd (fun W x (hb : Below w.heap.size w W) (hx : ClrAt W x) => kPutC_any c x W (hc.below hb) hx)
 have e2 : (c.kind == 2) = false := by simp [hk1]
 have hd2 : decide (c.kind = 2) = false := by simp [hk1]
 cases hr : readC c L with
 | none =>
   have HV : Hid (cellsO c L t seq (q.p l) = .none) := Zd (by simp [cellsO, hr])
   rw [hr] at HRD
   generalize cellsO c L t seq (q.p l) = R at *
   clear hc hR hL hbig hk1 e2 hd2 hr HAP HPC
   generalize L.length = n at *
   unfold cfgV at HRD ⊢
   go_enter Tryz.func105, Tryz.ntmps105
   go_wp2_with (refine (HRD.out _ HBX.out).mono ?_
                rintro er w1 ⟨⟨cap1, LA1, lc1, li1, DA1, dc1, dn1⟩, rfl, _, hown, hb1⟩
                have HB1 := Zd (btr HBX.out hb1)
                clear hb1 hown
                unfold clrV
                simp only [Option.isSome_none])
   go_ret2
   refine ⟨none, 0, by rw [HV.out]; rfl, by rw [HV.out]; exact own_nil _ _ _ _, HB1.out.alloc HB1.out.size _⟩
 | some p =>
   have HV : Hid (cellsO c L t seq (q.p l) = some (putC c (applyC false p t seq (q.p l)))) := Zd (by simp [cellsO, hr, hd2])
   obtain ⟨hck, hk3, hfit, _, _⟩ := readC_fit hr
   have hcap := chk_cap hck
   have hp1 : p.list.length <= 16 := by have := hfit.few; omega
   have hp2 : p.done.length <= 64 := by have := hfit.ndn; omega
   have hp3 : -1 <= p.cap := by have := hfit.cap; omega
   have HF : Hid (p.list.length <= 16 /\ p.done.length <= 64 /\ -1 <= p.cap) := Zd ⟨hp1, hp2, hp3⟩
   have HY : Hid (∀ y : Clr, y.p = applyC false p t seq (q.p l) -> y.list.length <= 1048576 /\ y.done.length <= 4096) := Zd (fun y hy => by
    have h1 : y.list = (applyC false p t seq (q.p l)).list := congrArg CellsP.list hy
    have h2 : y.done = (applyC false p t seq (q.p l)).done := congrArg CellsP.done hy
    rw [h1, h2]
    constructor
    . show (stpC _ _ _ _).1.length <= _
      unfold stpC
      repeat' split
      all_goals (first | omega | (simp; omega))
    . show (setR _ _ _).length <= _
      unfold setR
      split
      . simp; omega
      . omega)
   rw [hr] at HRD
   generalize cellsO c L t seq (q.p l) = R at *
   clear hc hR hL hbig hk1 hd2 hr hck hk3 hfit hcap hp1 hp2 hp3
   generalize L.length = n at *
   unfold cfgV at HRD HPC ⊢
   unfold reqV at HAP ⊢
   go_enter Tryz.func105, Tryz.ntmps105
   go_wp2_with (refine (HRD.out _ HBX.out).mono ?_
                rintro er w1 ⟨⟨cap1, LA1, lc1, li1, DA1, dc1, dn1⟩, rfl, hp, hown, hb1⟩
                have HP := Zd (hp p rfl)
                have HB1 := Zd (btr HBX.out hb1)
                have HC1 := Zd (HBC.out.below hb1)
                have HQ1 := Zd (HBQ.out.below hb1 HBQ.out.lt)
                have HO1 := Zd hown
                clear hb1 hown hp
                obtain ⟨f0, f1, f2, f3, f4, f5, f6, f7, f8, f9, f10⟩ := HC1.out.all
                have hlt0 : w.heap.size < w1.heap.size := HC1.out.1
                have hlt1 : w.heap.size + 1 < w1.heap.size := HQ1.out.lt
                unfold clrV
                simp only [Option.isSome_some])
   have HCX := Zd (HC1.out.below ((Below.refl w1.heap.size w1).alloc (Nat.le_refl _) (.cells #[.int .i64 cap1, .slice LA1 li1.length lc1, .slice DA1 dn1.length dc1] 91)))
   have HQX := Zd (HQ1.out.alloc (.cells #[.int .i64 cap1, .slice LA1 li1.length lc1, .slice DA1 dn1.length dc1] 91))
   have HXX := Zd (Blk.new w1 91 [.int .i64 cap1, .slice LA1 li1.length lc1, .slice DA1 dn1.length dc1])
   have HOX := Zd (HO1.out.below ((Below.refl w1.heap.size w1).alloc (Nat.le_refl _) (.cells #[.int .i64 cap1, .slice LA1 li1.length lc1, .slice DA1 dn1.length dc1] 91)))
   have HBW := Zd (HB1.out.alloc HB1.out.size (.cells #[.int .i64 cap1, .slice LA1 li1.length lc1, .slice DA1 dn1.length dc1] 91))
   clear f0 f1 f2 f3 f4 f5 f6 f7 f8 f9 f10
   have hlt2 : w1.heap.size < (w1.alloc (.cells #[.int .i64 cap1, .slice LA1 li1.length lc1, .slice DA1 dn1.length dc1] 91)).heap.size := lt_alloc _ _
   have hlt3 : w.heap.size < (w1.alloc (.cells #[.int .i64 cap1, .slice LA1 li1.length lc1, .slice DA1 dn1.length dc1] 91)).heap.size := HCX.out.1
   have hlt4 : w.heap.size + 1 < (w1.alloc (.cells #[.int .i64 cap1, .slice LA1 li1.length lc1, .slice DA1 dn1.length dc1] 91)).heap.size := HQX.out.lt
   generalize w1.alloc (.cells #[.int .i64 cap1, .slice LA1 li1.length lc1, .slice DA1 dn1.length dc1] 91) = V at *
   obtain ⟨f0, f1, f2, f3, f4, f5, f6, f7, f8, f9, f10⟩ := HCX.out.all
   have g0 := HQX.out.cell (i := 0) rfl
   have g1 := HQX.out.cell (i := 1) rfl
   have g2 := HQX.out.cell (i := 2) rfl
   have g3 := HQX.out.cell (i := 3) rfl
   have g4 := HQX.out.cell (i := 4) rfl
   have y0 := HXX.out.cell (i := 0) rfl
   have y1 := HXX.out.cell (i := 1) rfl
   have y2 := HXX.out.cell (i := 2) rfl
   have HPP : Hid (li1.length <= 16 /\ dn1.length <= 64 /\ -1 <= cap1) := Zd (by
    have h := HF.out
    rw [<- HP.out] at h
    exact h)
   have HAT := Zd (HOX.out.at_ (Nat.le_trans HPP.out.1 (by decide)) (Nat.le_trans HPP.out.2.1 (by decide)))
   have HATd := Zd (ClrAt.below HAT.out (Below.drewN' (Below.refl V.heap.size V) 1))
   have HAPX := Zd (HAP.out _ _ HATd.out HPP.out.2.2)
   unfold clrV at HAPX
   simp only at HAPX
   go_region_held3 (fun w' => w'.cell? ⟨w.heap.size, 0, none⟩ = some (.int .i64 c.kind) /\ w'.cell? ⟨w.heap.size, 1, none⟩ = some (.int .i64 c.threads) /\ w'.cell? ⟨w.heap.size, 2, none⟩ = some (.int .i64 c.chans) /\ w'.cell? ⟨w.heap.size, 3, none⟩ = some (.int .i64 c.cap) /\ w'.cell? ⟨w.heap.size, 4, none⟩ = some (.int .i64 c.nodes) /\ w'.cell? ⟨w.heap.size, 5, none⟩ = some (.int .i64 c.retire) /\ w'.cell? ⟨w.heap.size, 6, none⟩ = some (.int .i64 c.patience) /\ w'.cell? ⟨w.heap.size, 7, none⟩ = some (.int .i64 c.tags) /\ w'.cell? ⟨w.heap.size, 8, none⟩ = some (.int .i64 c.seqs) /\ w'.cell? ⟨w.heap.size, 9, none⟩ = some (.int .i64 c.gens) /\ w'.cell? ⟨w.heap.size, 10, none⟩ = some (.slice c.sa c.start.length c.sc) /\ w'.cell? ⟨w.heap.size + 1, 0, none⟩ = some (.int .i64 q.kind) /\ w'.cell? ⟨w.heap.size + 1, 1, none⟩ = some (.int .i64 q.arg) /\ w'.cell? ⟨w.heap.size + 1, 2, none⟩ = some (.int .i64 q.value) /\ w'.cell? ⟨w.heap.size + 1, 3, none⟩ = some (.bool q.dflt) /\ w'.cell? ⟨w.heap.size + 1, 4, none⟩ = some (.slice q.A q.n q.c) /\ w'.cell? ⟨w1.heap.size, 0, none⟩ = some (.int .i64 cap1) /\ w'.cell? ⟨w1.heap.size, 1, none⟩ = some (.slice LA1 li1.length lc1) /\ w'.cell? ⟨w1.heap.size, 2, none⟩ = some (.slice DA1 dn1.length dc1)) (first | go_keep | (simp only [hk1, hk2, hk3]; go_keep)) (first
    | (go_at_call 132; refine HAPX.out.mono ?_; rintro er w2 ⟨x, rfl, hp, hown, hb2⟩; have hY := HY.out x (by rw [hp, HP.out]); have hB2 : Below V.heap.size V w2 := ⟨hb2.os, hb2.tape, hb2.output, hb2.size, hb2.block⟩; have hk1 := fun o => hB2.cell (p := ⟨w.heap.size, o, none⟩) hlt3; have hk2 := fun o => hB2.cell (p := ⟨w.heap.size + 1, o, none⟩) hlt4; have hk3 := fun o => hB2.cell (p := ⟨w1.heap.size, o, none⟩) hlt2)
    | (go_at_call 39; refine (HPC.out _ _ (btr HBW.out hB2) (hown.at_ hY.1 hY.2)).mono ?_; rintro er w3 ⟨A3, d3, rfl, ho3, hb3⟩; have hB3 := hB2.trans (hb3.mono hB2.size); have hk1 := fun o => hB3.cell (p := ⟨w.heap.size, o, none⟩) hlt3; have hk2 := fun o => hB3.cell (p := ⟨w.heap.size + 1, o, none⟩) hlt4; have hk3 := fun o => hB3.cell (p := ⟨w1.heap.size, o, none⟩) hlt2))
   have HB3 := Zd (btr HBW.out hB3)
   have HO3 := Zd (own_lower ho3 (Nat.le_trans HBW.out.size hB2.size))
   simp only [hp] at HO3
   clear hk1 hk2 hk3 f0 f1 f2 f3 f4 f5 f6 f7 f8 f9 f10 g0 g1 g2 g3 g4 y0 y1 y2 hB3 ho3 hb3 hb2 hB2 hp hY
   go_wp2_with fail
   go_ret2
   refine ⟨A3, d3, ?_, ?_, HB3.out⟩
   . rw [HV.out, <- HP.out]; rfl
   . rw [HV.out, <- HP.out]; exact HO3.out
theorem oApply_any (c : Cfg) (A : Option Addr) (c0 : Nat) (L : List Int) (t seq : Int) (q : Reqr) (l : List Cse) (w : World) (hk1 : c.kind = 1) (hc : CfgIn w c) (hR : Rd w A (words L)) (hL : L.length <= c0) (hc0 : L.length <= 1048576) (hbig : ∀ x ∈ L, 0 <= x /\ x < 18446744073709551616) (hq : ReqAt w q l) :
  Calls Tryz.prog 72 #[cfgV c, .slice A L.length c0, .int .i64 t, .int .i64 seq, reqV q] w (RetWords (applyO c L t seq (q.p l)) w) := by
 obtain ⟨b0, b1, hb0⟩ := box2 w 24 40 (cfgCells c) q.cells
 have HBC := Zd (cfg_blk b0)
 have HBQ := Zd b1
 have HBX := Zd hb0
 clear b0 b1 hb0
 unfold cfgCells Reqr.cells at HBC HBQ HBX
 have HFI := Zd (fun W (hb : Below w.heap.size w W) => pFits_any q l W (hq.below hb))
 have HCE := Zd (fun W (hb : Below w.heap.size w W) => oCells_any c A c0 L t seq q l W hk1 (hc.below hb) (hR.below hb) hL hbig)
 have HCL := Zd (fun W (hb : Below w.heap.size w W) => CloneW_any A L.length c0 (words L) W (by omega) (by rw [words_length]; omega) (words_one _) (hR.below hb))
 have HV : Hid (applyO c L t seq (q.p l) = if t < 0 ∨ c.threads <= t ∨ seq < 0 ∨ 1048575 < seq ∨ fitsQ (q.p l) = false then L else (cellsO c L t seq (q.p l)).getD L) := Zd (by
  unfold applyO
  split
  . rfl
  . rw [if_neg (by omega)]
    unfold cellsO
    cases readC c L <;> rfl)
 have e3 : (c.kind == 3) = false := by simp [hk1]
 have e3' : (c.kind != 3) = true := by simp [hk1]
 generalize applyO c L t seq (q.p l) = R at *
 generalize cellsO c L t seq (q.p l) = O at *
 generalize fitsQ (q.p l) = F at *
 clear hc hR hL hbig hk1 hq hc0
 generalize hn : L.length = n at *
 have HN := Zd hn
 clear hn
 have HBV := Zd HBC.out.all
 unfold cfgV at HCE ⊢
 unfold reqV at HFI HCE ⊢
 by_cases h1 : t < 0
 . have HVV : Hid (R = L) := Zd (by rw [HV.out, if_pos (by exact .inl h1)])
   skip
   clear HV
   go_enter Tryz.func72, Tryz.ntmps72
   go_wp2_with (first
    | (refine (HCL.out _ HBX.out).mono ?_; rintro er w2 ⟨A2, d2, rfl, ho2, hb2⟩; have HO2 := Zd (own_lower ho2 HBX.out.size); have HB2 := Zd (btr HBX.out hb2); clear ho2 hb2))
   go_ret
   exact ⟨A2, d2, by rw [HVV.out, HN.out]; rfl, by rw [HVV.out, HN.out]; exact HO2.out, HB2.out⟩
 by_cases h2 : c.threads <= t
 . have HVV : Hid (R = L) := Zd (by rw [HV.out, if_pos (by exact .inr (.inl h2))])
   skip
   clear HV
   go_enter Tryz.func72, Tryz.ntmps72
   go_wp2_with (first
    | (refine (HCL.out _ HBX.out).mono ?_; rintro er w2 ⟨A2, d2, rfl, ho2, hb2⟩; have HO2 := Zd (own_lower ho2 HBX.out.size); have HB2 := Zd (btr HBX.out hb2); clear ho2 hb2))
   go_ret
   exact ⟨A2, d2, by rw [HVV.out, HN.out]; rfl, by rw [HVV.out, HN.out]; exact HO2.out, HB2.out⟩
 by_cases h3 : seq < 0
 . have HVV : Hid (R = L) := Zd (by rw [HV.out, if_pos (by exact .inr (.inr (.inl h3)))])
   skip
   clear HV
   go_enter Tryz.func72, Tryz.ntmps72
   go_wp2_with (first
    | (refine (HCL.out _ HBX.out).mono ?_; rintro er w2 ⟨A2, d2, rfl, ho2, hb2⟩; have HO2 := Zd (own_lower ho2 HBX.out.size); have HB2 := Zd (btr HBX.out hb2); clear ho2 hb2))
   go_ret
   exact ⟨A2, d2, by rw [HVV.out, HN.out]; rfl, by rw [HVV.out, HN.out]; exact HO2.out, HB2.out⟩
 by_cases h4 : 1048575 < seq
 . have HVV : Hid (R = L) := Zd (by rw [HV.out, if_pos (by exact .inr (.inr (.inr (.inl h4))))])
   skip
   clear HV
   go_enter Tryz.func72, Tryz.ntmps72
   go_wp2_with (first
    | (refine (HCL.out _ HBX.out).mono ?_; rintro er w2 ⟨A2, d2, rfl, ho2, hb2⟩; have HO2 := Zd (own_lower ho2 HBX.out.size); have HB2 := Zd (btr HBX.out hb2); clear ho2 hb2))
   go_ret
   exact ⟨A2, d2, by rw [HVV.out, HN.out]; rfl, by rw [HVV.out, HN.out]; exact HO2.out, HB2.out⟩
 cases hf : F
 . have HVV : Hid (R = L) := Zd (by rw [HV.out, if_pos (by exact .inr (.inr (.inr (.inr hf))))])
   rw [hf] at HFI
   clear hf
   clear HV
   go_enter Tryz.func72, Tryz.ntmps72
   go_wp2_with (first
    | (refine (HFI.out _ HBX.out).mono ?_; rintro er w1 ⟨rfl, hb1⟩; have HB1 := Zd (btr HBX.out hb1); clear hb1)
    | (refine (HCL.out _ HB1.out).mono ?_; rintro er w2 ⟨A2, d2, rfl, ho2, hb2⟩; have HO2 := Zd (own_lower ho2 HB1.out.size); have HB2 := Zd (btr HB1.out hb2); clear ho2 hb2))
   go_ret
   exact ⟨A2, d2, by rw [HVV.out, HN.out]; rfl, by rw [HVV.out, HN.out]; exact HO2.out, HB2.out⟩
 . have HVV : Hid (R = O.getD L) := Zd (by rw [HV.out, if_neg (by rintro (g | g | g | g | g) <;> first | omega | (rw [hf] at g; cases g))])
   rw [hf] at HFI
   clear HV hf
   cases O with
   | none =>
     go_enter Tryz.func72, Tryz.ntmps72
     go_wp2_with (first
      | (refine (HFI.out _ HBX.out).mono ?_; rintro er w1 ⟨rfl, hb1⟩; have HB1 := Zd (btr HBX.out hb1); have HC1 := Zd (HBC.out.below hb1); have HQ1 := Zd (HBQ.out.below hb1 HBQ.out.lt); clear hb1; obtain ⟨f0, f1, f2, f3, f4, f5, f6, f7, f8, f9, f10⟩ := HC1.out.all; obtain ⟨g0, g1, g2, g3, g4⟩ := reqBox (q := q) HQ1.out)
      | (refine (HCE.out _ HB1.out).mono ?_; rintro er w2 ⟨A2, d2, rfl, ho2, hb2⟩; have HB2 := Zd (btr HB1.out hb2); clear ho2 hb2; simp only [Option.isSome_none, Option.getD_none])
      | (refine (HCL.out _ HB2.out).mono ?_; rintro er w3 ⟨A3, d3, rfl, ho3, hb3⟩; have HO3 := Zd (own_lower ho3 HB2.out.size); have HB3 := Zd (btr HB2.out hb3); clear ho3 hb3))
     go_ret
     exact ⟨A3, d3, by rw [HVV.out]; simp only [Option.getD_none]; rw [HN.out]; rfl, by rw [HVV.out]; simp only [Option.getD_none]; rw [HN.out]; exact HO3.out, HB3.out⟩
   | some o =>
     go_enter Tryz.func72, Tryz.ntmps72
     go_wp2_with (first
      | (refine (HFI.out _ HBX.out).mono ?_; rintro er w1 ⟨rfl, hb1⟩; have HB1 := Zd (btr HBX.out hb1); have HC1 := Zd (HBC.out.below hb1); have HQ1 := Zd (HBQ.out.below hb1 HBQ.out.lt); clear hb1; obtain ⟨f0, f1, f2, f3, f4, f5, f6, f7, f8, f9, f10⟩ := HC1.out.all; obtain ⟨g0, g1, g2, g3, g4⟩ := reqBox (q := q) HQ1.out)
      | (refine (HCE.out _ HB1.out).mono ?_; rintro er w2 ⟨A2, d2, rfl, ho2, hb2⟩; have HO2 := Zd (own_lower ho2 HB1.out.size); have HB2 := Zd (btr HB1.out hb2); clear ho2 hb2; simp only [Option.isSome_some, Option.getD_some]))
     go_ret
     exact ⟨A2, d2, by rw [HVV.out]; rfl, by rw [HVV.out]; exact HO2.out, HB2.out⟩
theorem objOk_fifo (c : Cfg) (hk : c.kind = 1) : ObjOk c where
 start := fun w hc => by
  cases h : chkB c
  . exact oStart_no c w hc h
  . exact oStart_cells c w hc h (by omega)
 apply := fun A c0 L t seq q l w hc hR hL hc0 hbig hq _ => oApply_any c A c0 L t seq q l w hk hc hR hL hc0 hbig hq
 done := fun A c0 L t w hc hR hL h0 ht => oDone_any c A c0 L t w hc hR hL h0 ht
 big := fun L t seq q h => applyO_big (by omega) L t seq q h
 big0 := startO_big (by omega)
def srchCells (c : Cfg) (NA : Option Addr) (nn nc : Nat) (mb : Nat) : List Value := cfgCells c ++ [.slice NA nn nc, .map (some mb)]
theorem srch_cfg {w : World} {g : Nat} {c : Cfg} {NA : Option Addr} {nn nc mb : Nat} (h : Blk w g 51 (srchCells c NA nn nc mb)) : BoxC w g c :=
 ⟨h.lt, fun i v hi => h.cell (by
  unfold srchCells
  have : i < (cfgCells c).length := (List.getElem?_eq_some_iff.1 hi).1
  rw [List.getElem?_append_left this]; exact hi)⟩
theorem doneO_big {c : Cfg} {L : List Int} {t : Int} (h : ∀ x ∈ L, 0 <= x /\ x < 18446744073709551616) : 0 <= doneO c L t /\ doneO c L t < 18446744073709551616 := by
 unfold doneO
 split
 . omega
 . rename_i hn
   simp only [not_or] at hn
   have hs := stateS_rng c
   exact h _ (getD_mem (by omega))
theorem put4 {w : World} {g : Nat} {t : TypeId} {a b c d v0 v1 v2 v3 : Value} (h : Blk w g t [a, b, c, d]) : Blk ((((w.setCell ⟨g, 0, none⟩ v0).setCell ⟨g, 1, none⟩ v1).setCell ⟨g, 2, none⟩ v2).setCell ⟨g, 3, none⟩ v3) g t [v0, v1, v2, v3] := (((h.set_ 0 v0).set_ 1 v1).set_ 2 v2).set_ 3 v3
theorem hFits_any (c : Cfg) (gF : Nat) (NA : Option Addr) (nn nc mb : Nat) (s : Str) (n : Nte) (l : List Cse) (rec_ : List Int) (w : World) (hok : ObjOk c) (hc : CfgIn w c) (hF : Blk w gF 51 (srchCells c NA nn nc mb))
  (hR : Rd w s.RA (words rec_)) (hl : rec_.length = s.rn) (hL : rec_.length <= 1048576) (hbig : ∀ x ∈ rec_, 0 <= x /\ x < 18446744073709551616) (h0 : 0 <= n.thread) (ht : n.thread <= 4096) :
  Calls Tryz.prog 70 #[.pointer (some ⟨gF, 0, none⟩), strV s, nteV n] w fun e w' => e = .returned (.bool (tellsB c rec_ (n.p l))) /\ Below w.heap.size w w' := by
 obtain ⟨b0, b1, hb0⟩ := box2 w 57 44 s.cells n.cells
 have HDN := Zd (fun W (hb : Below w.heap.size w W) => hok.done s.RA s.rc rec_ n.thread W (hc.below hb) (hR.below hb) hL h0 ht)
 have hdb := doneO_big (c := c) (t := n.thread) hbig
 have HV : Hid (tellsB c rec_ (n.p l) = (decide ((rrI (doneO c rec_ n.thread)).seq = n.seq) && (decide (n.kind = 2) || sameR (rrI (doneO c rec_ n.thread)) ⟨n.qseq, n.qcase, n.qcode, n.qvalue⟩))) := Zd rfl
 generalize doneO c rec_ n.thread = u at *
 obtain ⟨u, rfl⟩ : ∃ k : Nat, u = k := ⟨u.toNat, by omega⟩
 have HRR := Zd (fun W => ReadResult_any u (by omega) W)
 have hrr : rrOf u = rrI u := rfl
 rw [hrr] at HRR
 generalize hr : rrI (u : Int) = r at *
 clear hr hrr hdb
 rw [hl] at HDN
 generalize tellsB c rec_ (n.p l) = R at *
 have HY0 := Zd b0
 have HY1 := Zd b1
 have HBX := Zd hb0
 have HCF := Zd ((srch_cfg hF).below hb0)
 have HFL := Zd hF.lt
 clear b0 b1 hb0 hok hc hF hR hL hbig hl
 obtain ⟨at_, RA, rn, rc, LA, ln, lc⟩ := s
 unfold Str.cells Nte.cells at HY0 HY1 HBX HCF
 simp only at HY0 HY1 HBX HCF HDN
 unfold strV nteV
 simp only
 unfold cfgV at HDN
 go_enter Tryz.func70, Tryz.ntmps70
 go_upto_region 1 with fail
 generalize ((w.alloc (.cells #[.int .i64 at_, .slice RA rn rc, .slice LA ln lc] 57)).alloc (.cells #[.int .i64 n.kind, .int .i64 n.thread, .int .i64 n.seq, .int .i64 n.time, .int .i64 n.rkind, .int .i64 n.rarg, .int .i64 n.rvalue, .bool n.rdef, .slice n.ca n.cl n.cc, .int .i64 n.qseq, .int .i64 n.qcase, .int .i64 n.qcode, .int .i64 n.qvalue] 44)) = W0 at *
 have hg0 : w.heap.size < W0.heap.size := HY0.out.lt
 have hg1 : w.heap.size + 1 < W0.heap.size := HY1.out.lt
 have hgF : gF < W0.heap.size := HCF.out.1
 have nF0 := Nat.ne_of_lt hgF
 have nF0' := nF0.symm
 have n00 := Nat.ne_of_lt hg0
 have n00' := n00.symm
 have n10 := Nat.ne_of_lt hg1
 have n10' := n10.symm
 have y1 := HY0.out.cell (i := 1) rfl
 have v1 := HY1.out.cell (i := 1) rfl
 obtain ⟨f0, f1, f2, f3, f4, f5, f6, f7, f8, f9, f10⟩ := HCF.out.all
 have HBd := Zd (Below.drewN' HBX.out 1)
 have HBa := Zd (fun ob => HBX.out.trans ((below1 W0 ob).mono HBX.out.size))
 go_cut [7] (fun s7 wx => ∃ g, s7 = .pointer (some ⟨g, 0, none⟩) /\ Blk wx g 42 r.cells /\ W0.heap.size <= g /\ Below W0.heap.size W0 wx)
 case first =>
  go_region_held3 (fun w' => w'.cell? ⟨gF, 0, none⟩ = some (.int .i64 c.kind) /\ w'.cell? ⟨gF, 1, none⟩ = some (.int .i64 c.threads) /\ w'.cell? ⟨gF, 2, none⟩ = some (.int .i64 c.chans) /\ w'.cell? ⟨gF, 3, none⟩ = some (.int .i64 c.cap) /\ w'.cell? ⟨gF, 4, none⟩ = some (.int .i64 c.nodes) /\ w'.cell? ⟨gF, 5, none⟩ = some (.int .i64 c.retire) /\ w'.cell? ⟨gF, 6, none⟩ = some (.int .i64 c.patience) /\ w'.cell? ⟨gF, 7, none⟩ = some (.int .i64 c.tags) /\ w'.cell? ⟨gF, 8, none⟩ = some (.int .i64 c.seqs) /\ w'.cell? ⟨gF, 9, none⟩ = some (.int .i64 c.gens) /\ w'.cell? ⟨gF, 10, none⟩ = some (.slice c.sa c.start.length c.sc) /\ w'.cell? ⟨w.heap.size, 1, none⟩ = some (.slice RA rn rc) /\ w'.cell? ⟨w.heap.size + 1, 1, none⟩ = some (.int .i64 n.thread)) (first | go_keep | (simp only [hk1, hk2, hk3]; go_keep)) (first
   | (go_at_call 103; refine (HDN.out _ ?_).mono ?_; (first | exact HBd.out | exact HBa.out _); rintro er w4 ⟨rfl, hb4⟩; have hB4 : Below W0.heap.size W0 w4 := (by first | exact (Below.drewN' (Below.refl _ W0) 1).trans hb4 | exact (below1 W0 _).trans (hb4.mono (below1 W0 _).size)); have hk1 := fun o => hB4.cell (p := ⟨gF, o, none⟩) hgF; have hk2 := fun o => hB4.cell (p := ⟨w.heap.size, o, none⟩) hg0; have hk3 := fun o => hB4.cell (p := ⟨w.heap.size + 1, o, none⟩) hg1; have nF4 := Nat.ne_of_lt (Nat.lt_of_lt_of_le hgF hB4.size); have nF4' := nF4.symm; have n04 := Nat.ne_of_lt (Nat.lt_of_lt_of_le hg0 hB4.size); have n04' := n04.symm; have n14 := Nat.ne_of_lt (Nat.lt_of_lt_of_le hg1 hB4.size); have n14' := n14.symm; (try (have hY4 := Blk.below (Blk.drew (Blk.new W0 42 [.int .i64 0, .int .i64 0, .int .i64 0, .int .i64 0])) hb4 (lt_alloc _ _))))
   | (go_at_call 102; refine (HRR.out _).mono ?_; rintro er w5 ⟨rfl, hb5⟩; have hB5 : Below W0.heap.size W0 w5 := (by first | exact hB4.trans (hb5.mono hB4.size) | exact (hB4.alloc hB4.size _).trans (hb5.mono (hB4.alloc hB4.size _).size)); have hn4 := hB4.size; clear hk1 hk2 hk3; have hk1 := fun o => hB5.cell (p := ⟨gF, o, none⟩) hgF; have hk2 := fun o => hB5.cell (p := ⟨w.heap.size, o, none⟩) hg0; have hk3 := fun o => hB5.cell (p := ⟨w.heap.size + 1, o, none⟩) hg1; (try (have hY5 := Blk.below (Blk.new w4 42 [.int .i64 0, .int .i64 0, .int .i64 0, .int .i64 0]) hb5 (lt_alloc _ _))); (try (have hY5 := Blk.below hY4 hb5 hY4.lt)); (try (have z0 := hY5.cell (i := 0) rfl; have zf := hY5.frozen; have z1 := hY5.cell (i := 1) rfl; have z2 := hY5.cell (i := 2) rfl; have z3 := hY5.cell (i := 3) rfl))))
  all_goals
   clear hk1 hk2 hk3
   go_step
   go_step
   go_meet
   first
    | (have hp := put4 (v0 := .int .i64 r.seq) (v1 := .int .i64 r.case_) (v2 := .int .i64 r.code) (v3 := .int .i64 r.value) hY5
       refine ⟨_, rfl, hp, ?_, ?_⟩
       . first | exact hB4.size | exact Nat.le_refl _
       . first | exact below4 hB5 hB4.size | exact below4 hB5 (Nat.le_refl _))
    | exact ⟨_, rfl, Blk.new w5 42 r.cells, hB5.size, hB5.alloc hB5.size _⟩
 case rest =>
  obtain ⟨g, rfl, hbk, hge, hb⟩ := hcut
  have HB := Zd (btr HBX.out hb)
  have HN := Zd (HY1.out.below hb HY1.out.lt)
  clear f0 f1 f2 f3 f4 f5 f6 f7 f8 f9 f10 y1 v1
  obtain ⟨x0, x1, x2, x3⟩ := rsBox hbk
  have v0 := HN.out.cell (i := 0) rfl
  have v2 := HN.out.cell (i := 2) rfl
  have v9 := HN.out.cell (i := 9) rfl
  have v10 := HN.out.cell (i := 10) rfl
  have v11 := HN.out.cell (i := 11) rfl
  have v12 := HN.out.cell (i := 12) rfl
  clear hbk hb
  by_cases q1 : r.seq = n.seq
  . have e1 : (r.seq != n.seq) = false := by simp [q1]
    rw [decide_eq_true q1] at HV
    clear q1
    by_cases q2 : n.kind = 2
    . have e2 : (n.kind == 2) = true := by simp [q2]
      rw [decide_eq_true q2] at HV
      clear q2
      go_wp2_with fail
      go_ret
      exact ⟨ret_bool (by rw [HV.out]; rfl), HB.out⟩
    . have e2 : (n.kind == 2) = false := by simp [q2]
      rw [decide_eq_false q2] at HV
      clear q2
      go_wp2_with fail
      all_goals
       go_ret
       refine ⟨ret_bool ?_, HB.out⟩
       rw [HV.out]
       unfold sameR
       simp [*]
  . have e1 : (r.seq != n.seq) = true := by simp [q1]
    rw [decide_eq_false q1] at HV
    clear q1
    go_wp2_with fail
    go_ret
    exact ⟨ret_bool (by rw [HV.out]; rfl), HB.out⟩
def OprIs (w : World) (x : Opr) (y : OpP) : Prop := x.seq = y.seq /\ x.on = y.on /\ x.applied = y.applied /\ ∃ cs, ReqAt w x.q cs /\ cs.length <= 1048576 /\ x.q.p cs = y.req
theorem OprIs.below {w w' : World} {x : Opr} {y : OpP} (h : OprIs w x y) (hb : Below w.heap.size w w') : OprIs w' x y := by
 obtain ⟨h1, h2, h3, cs, h4, h5, h6⟩ := h
 exact ⟨h1, h2, h3, cs, h4.below hb, h5, h6⟩
structure StAt (w : World) (s : Str) (p : StP) : Prop where
 at_ : s.at_ = p.at_
 rn : p.rec_.length = s.rn
 rc : s.rn <= s.rc
 rb : s.rn <= 1048576
 rd : Rd w s.RA (words p.rec_)
 big : ∀ x ∈ p.rec_, 0 <= x /\ x < 18446744073709551616
 ln : p.l.length = s.ln
 lb : s.ln <= 4096
 l : ∃ L : List Opr, L.length = s.ln /\ Rd w s.LA (rows L) /\ ∀ k, k < s.ln -> OprIs w (L.getD k Opr.none) (p.l.getD k OpP.none)
theorem StAt.below {w w' : World} {s : Str} {p : StP} (h : StAt w s p) (hb : Below w.heap.size w w') : StAt w' s p := by
 obtain ⟨L, h1, h2, h3⟩ := h.l
 exact ⟨h.at_, h.rn, h.rc, h.rb, h.rd.below hb, h.big, h.ln, h.lb, L, h1, h2.below hb, fun k hk => (h3 k hk).below hb⟩
structure NtsAt (w : World) (NA : Option Addr) (NS : List Nte) (PS : List NtP) : Prop where
 rd : Rd w NA (rows NS)
 len : PS.length = NS.length
 few : NS.length <= 4096
 is_ : ∀ k, k < NS.length -> ∃ cs, ReqAt w (NS.getD k Nte.none).q cs /\ ((NS.getD k Nte.none).kind = 1 -> cs.length <= 1048576) /\ PS.getD k NtP.none = (NS.getD k Nte.none).p cs
theorem NtsAt.below {w w' : World} {NA : Option Addr} {NS : List Nte} {PS : List NtP} (h : NtsAt w NA NS PS) (hb : Below w.heap.size w w') : NtsAt w' NA NS PS :=
 ⟨h.rd.below hb, h.len, h.few, fun k hk => by
  obtain ⟨cs, h1, h2⟩ := h.is_ k hk
  exact ⟨cs, h1.below hb, h2⟩⟩
def RetSts (ps : List StP) (w : World) (e : Ending) (w' : World) : Prop :=
 ∃ A c S, e = .returned (.slice A S.length c) /\ S.length = ps.length /\ Rd w' A (rows S) /\ (∀ k, k < ps.length -> StAt w' (S.getD k Str.none) (ps.getD k ⟨0, [], []⟩)) /\ Below w.heap.size w w'
theorem StAt.with_ {w w1 w' : World} {s : Str} {p : StP} (h : StAt w s p) (hb1 : Below w.heap.size w w1) {L : List Opr} (hL : L.length = s.ln) (hLk : ∀ k, k < s.ln -> OprIs w (L.getD k Opr.none) (p.l.getD k OpP.none)) {t : Nat} (ht : t < s.ln) {x : Opr} {y : OpP} (hx : OprIs w x y) (at2 : Nat)
  {A : Option Addr} {c : Nat} (ho : w'.ownsRow w1.heap.size 63 8 (.slice A s.ln c) s.ln (rows (L.set t x))) (hb2 : Below w1.heap.size w1 w') : StAt w' ⟨at2, s.RA, s.rn, s.rc, A, s.ln, c⟩ ⟨at2, p.rec_, p.l.set t y⟩ := by
 have hb := hb1.trans (hb2.mono hb1.size)
 refine ⟨rfl, h.rn, h.rc, h.rb, h.rd.below hb, h.big, by simpa using h.ln, h.lb, L.set t x, by simpa using hL, own_rd ho, fun k hk => ?_⟩
 have hk' : k < s.ln := hk
 rw [set_at L Opr.none (by rw [hL]; exact ht), set_at p.l OpP.none (by rw [h.ln]; exact ht)]
 by_cases e : k = t
 . rw [if_pos e, if_pos e]; exact hx.below hb
 . rw [if_neg e, if_neg e]; exact (hLk k hk').below hb
theorem hWays_call (c : Cfg) (gF : Nat) (NA : Option Addr) (nc mb : Nat) (NS : List Nte) (PS : List NtP) (s : Str) (p : StP) (t : Nat) (w : World) (hF : Blk w gF 51 (srchCells c NA NS.length nc mb))
  (hN : NtsAt w NA NS PS) (hs : StAt w s p) (hat : p.at_ < NS.length) (hth : (NS.getD p.at_ Nte.none).thread = (t : Int)) (ht : t < s.ln) (hk1 : (NS.getD p.at_ Nte.none).kind = 1) :
  Calls Tryz.prog 36 #[.pointer (some ⟨gF, 0, none⟩), strV s] w (RetSts (waysS c PS p) w) := by
 obtain ⟨L, hL, hLR, hLk⟩ := hs.l
 obtain ⟨cs, hcs, hcl, hps⟩ := hN.is_ p.at_ hat
 obtain ⟨bN, oN, hNA, hbN, hcN⟩ := hN.rd.at_ (by rw [rows_length]; simp only [Cellful.s]; omega)
 have hxc := note_cells (k := p.at_) (x := NS.getD p.at_ Nte.none) hcN hat rfl
 obtain ⟨bL, oL, hLA, hbL, hcL⟩ := hLR.at_ (by rw [rows_length]; simp only [Cellful.s]; omega)
 have hyc := opr_cells (k := t) (x := L.getD t Opr.none) hcL (by rw [hL]; exact ht) rfl
 have hyo := hLk t ht
 clear hcN hcL
 generalize hx : NS.getD p.at_ Nte.none = x at *
 generalize hy : L.getD t Opr.none = y at *
 have HV : Hid (waysS c PS p = [⟨p.at_ + 1, p.rec_, p.l.set t ⟨true, false, x.seq, ⟨x.rkind, x.rarg, x.rvalue, x.rdef, cs⟩⟩⟩]) := Zd (by
  unfold waysS
  simp only [hps]
  rw [if_pos (by exact hk1)]
  have : (x.p cs).thread.toNat = t := by show x.thread.toNat = t; omega
  rw [this]
  rfl)
 generalize waysS c PS p = R at *
 have HST := Zd hs
 have HLL := Zd hL
 have HLK := Zd hLk
 have HLR := Zd hLR
 have HCS := Zd hcs
 have HCL := Zd (hcl hk1)
 have HAT := Zd hs.at_
 have hsl := hs.lb
 have hnf := hN.few
 have e1 : (x.kind == 1) = true := by simp [hk1]
 have hFN : w.cell? ⟨gF, 11, none⟩ = some (.slice NA NS.length nc) := hF.cell rfl
 have HFL := Zd hF.lt
 clear hs hN hps hcs hcl hLk hLR hyo hL hk1 hF hx
 obtain ⟨at_, RA, rn, rc, LA, ln, lc⟩ := s
 simp only at hLA HLL HLK HLR HAT ht hsl hnf
 subst hLA hNA
 have HAE : Hid (at_ = (p.at_ : Int)) := Zd HAT.out
 clear HAT
 obtain rfl := HAE.out
 clear HAE
 generalize p.at_ = pa at *
 generalize hnl : NS.length = nn at *
 have HNL := Zd hnl
 clear hnl
 have q0 : (0 : Int) <= (pa : Int) := by omega
 have q1 : (pa : Int) < (nn : Int) := by omega
 have q2 : (0 : Int) <= (t : Int) := by omega
 have q3 : (t : Int) < (ln : Int) := by omega
 obtain ⟨c0, c1, c2, c3, c4, c5, c6, c7, c8, c9, c10, c11, c12⟩ := hxc
 obtain ⟨d0, d1, d2, d3, d4, d5, d6, d7⟩ := hyc
 rw [hth] at c1
 have nb1 := Nat.ne_of_lt hbN
 have nb2 := Nat.ne_of_lt hbL
 have nb3 := Nat.ne_of_lt HFL.out
 have HY0 := Zd (Blk.new w 57 [.int .i64 pa, .slice RA rn rc, .slice (some ⟨bL, oL, none⟩) ln lc])
 have HB0 := Zd ((Below.refl w.heap.size w).alloc (Nat.le_refl _) (.cells #[.int .i64 pa, .slice RA rn rc, .slice (some ⟨bL, oL, none⟩) ln lc] 57))
 unfold strV
 simp only
 go_enter Tryz.func36, Tryz.ntmps36
 go_wp2_with fail
 go_region_held3 (fun w' => w'.cell? ⟨gF, 11, none⟩ = some (.slice (some ⟨bN, oN, none⟩) nn nc) /\ w'.cell? ⟨w.heap.size, 0, none⟩ = some (.int .i64 pa) /\ w'.cell? ⟨bN, oN + pa * 13, none⟩ = some (.int .i64 x.kind) /\ w'.cell? ⟨bN, oN + pa * 13 + 1, none⟩ = some (.int .i64 t) /\ w'.cell? ⟨bN, oN + pa * 13 + 2, none⟩ = some (.int .i64 x.seq) /\ w'.cell? ⟨bN, oN + pa * 13 + 3, none⟩ = some (.int .i64 x.time) /\ w'.cell? ⟨bN, oN + pa * 13 + 4, none⟩ = some (.int .i64 x.rkind) /\ w'.cell? ⟨bN, oN + pa * 13 + 5, none⟩ = some (.int .i64 x.rarg) /\ w'.cell? ⟨bN, oN + pa * 13 + 6, none⟩ = some (.int .i64 x.rvalue) /\ w'.cell? ⟨bN, oN + pa * 13 + 7, none⟩ = some (.bool x.rdef) /\ w'.cell? ⟨bN, oN + pa * 13 + 8, none⟩ = some (.slice x.ca x.cl x.cc) /\ w'.cell? ⟨bN, oN + pa * 13 + 9, none⟩ = some (.int .i64 x.qseq) /\ w'.cell? ⟨bN, oN + pa * 13 + 10, none⟩ = some (.int .i64 x.qcase) /\ w'.cell? ⟨bN, oN + pa * 13 + 11, none⟩ = some (.int .i64 x.qcode) /\ w'.cell? ⟨bN, oN + pa * 13 + 12, none⟩ = some (.int .i64 x.qvalue)) (go_keep) (fail)
 have HN1 := Zd (Blk.drew (Blk.new (w.alloc (.cells #[.int .i64 pa, .slice RA rn rc, .slice (some ⟨bL, oL, none⟩) ln lc] 57)) 44 [.int .i64 x.kind, .int .i64 t, .int .i64 x.seq, .int .i64 x.time, .int .i64 x.rkind, .int .i64 x.rarg, .int .i64 x.rvalue, .bool x.rdef, .slice x.ca x.cl x.cc, .int .i64 x.qseq, .int .i64 x.qcase, .int .i64 x.qcode, .int .i64 x.qvalue]))
 have HY1 := Zd (Blk.drew (HY0.out.alloc (.cells #[.int .i64 x.kind, .int .i64 t, .int .i64 x.seq, .int .i64 x.time, .int .i64 x.rkind, .int .i64 x.rarg, .int .i64 x.rvalue, .bool x.rdef, .slice x.ca x.cl x.cc, .int .i64 x.qseq, .int .i64 x.qcase, .int .i64 x.qcode, .int .i64 x.qvalue] 44)))
 have HB1 := Zd ((HB0.out.alloc HB0.out.size (.cells #[.int .i64 x.kind, .int .i64 t, .int .i64 x.seq, .int .i64 x.time, .int .i64 x.rkind, .int .i64 x.rarg, .int .i64 x.rvalue, .bool x.rdef, .slice x.ca x.cl x.cc, .int .i64 x.qseq, .int .i64 x.qcase, .int .i64 x.qcode, .int .i64 x.qvalue] 44)).drew)
 have HN1' : Hid ((w.alloc (.cells #[.int .i64 pa, .slice RA rn rc, .slice (some ⟨bL, oL, none⟩) ln lc] 57)).heap.size = w.heap.size + 1) := Zd (by simp)
 rw [HN1'.out] at HN1
 clear c0 c1 c2 c3 c4 c5 c6 c7 c8 c9 c10 c11 c12 hFN HY0 HB0 HN1'
 go_step
 generalize ((w.alloc (.cells #[.int .i64 pa, .slice RA rn rc, .slice (some ⟨bL, oL, none⟩) ln lc] 57)).alloc (.cells #[.int .i64 x.kind, .int .i64 t, .int .i64 x.seq, .int .i64 x.time, .int .i64 x.rkind, .int .i64 x.rarg, .int .i64 x.rvalue, .bool x.rdef, .slice x.ca x.cl x.cc, .int .i64 x.qseq, .int .i64 x.qcase, .int .i64 x.qcode, .int .i64 x.qvalue] 44)).drew = W1 at *
 have y0 := HY1.out.cell (i := 0) rfl
 have y1 := HY1.out.cell (i := 1) rfl
 have y2 := HY1.out.cell (i := 2) rfl
 have v0 := HN1.out.cell (i := 0) rfl
 have v1 := HN1.out.cell (i := 1) rfl
 have v2 := HN1.out.cell (i := 2) rfl
 have v4 := HN1.out.cell (i := 4) rfl
 have v5 := HN1.out.cell (i := 5) rfl
 have v6 := HN1.out.cell (i := 6) rfl
 have v7 := HN1.out.cell (i := 7) rfl
 have v8 := HN1.out.cell (i := 8) rfl
 have hbc := fun o => HB1.out.cell (p := ⟨bL, o, none⟩) hbL
 have hl0 : w.heap.size < W1.heap.size := HY1.out.lt
 have hl1 : w.heap.size + 1 < W1.heap.size := HN1.out.lt
 have hl2 : bL < W1.heap.size := Nat.lt_of_lt_of_le hbL HB1.out.size
 have HB2 := Zd (fun o o' => HB1.out.trans ((below_two W1 o o').mono HB1.out.size))
 have HWT := Zd (fun W (hW : Below w.heap.size w W) => hWith_any ⟨(pa : Int) + 1, RA, rn, rc, some ⟨bL, oL, none⟩, ln, lc⟩ L t ⟨x.q, x.seq, true, false⟩ W HLL.out hsl ht (HLR.out.below hW))
 unfold strV oprV Nte.q at HWT
 simp only at HWT
 go_wp2_with (refine (HWT.out _ (HB2.out _ _)).mono ?_
              rintro er w2 ⟨A2, c2, rfl, how2, hb2⟩
              have HO2 := Zd how2
              have HW2 := Zd hb2
              unfold strV
              simp only
              clear how2 hb2)
 go_ret
 have hb2 := (HB2.out _ _).trans (HW2.out.mono (HB2.out _ _).size)
 have hsa : StAt w2 ⟨(pa : Int) + 1, RA, rn, rc, A2, ln, c2⟩ ⟨pa + 1, p.rec_, p.l.set t ⟨true, false, x.seq, ⟨x.rkind, x.rarg, x.rvalue, x.rdef, cs⟩⟩⟩ := by
  have h := HST.out.with_ (HB2.out _ _) HLL.out HLK.out ht (x := ⟨x.q, x.seq, true, false⟩) (y := ⟨true, false, x.seq, ⟨x.rkind, x.rarg, x.rvalue, x.rdef, cs⟩⟩) ⟨rfl, rfl, rfl, cs, HCS.out, HCL.out, rfl⟩ (pa + 1) HO2.out HW2.out
  rw [show (((pa + 1 : Nat) : Int)) = (pa : Int) + 1 by omega] at h
  exact h
 have hal := (Below.refl w2.heap.size w2).alloc (Nat.le_refl _) (.cells #[.int .i64 ((pa : Int) + 1), .slice RA rn rc, .slice A2 ln c2] 57)
 refine ⟨some ⟨w2.heap.size, 0, none⟩, 1, [⟨(pa : Int) + 1, RA, rn, rc, A2, ln, c2⟩], rfl, by rw [HV.out]; rfl, (blk_new (cs := rows [(⟨(pa : Int) + 1, RA, rn, rc, A2, ln, c2⟩ : Str)]) rfl).rd, fun k hk => ?_, hb2.trans (hal.mono hb2.size)⟩
 rw [HV.out] at hk ⊢
 obtain rfl : k = 0 := by simpa using hk
 exact hsa.below hal
theorem hWays_told (c : Cfg) (gF : Nat) (NA : Option Addr) (nc mb : Nat) (NS : List Nte) (PS : List NtP) (s : Str) (p : StP) (t : Nat) (w : World) (hok : ObjOk c) (hc : CfgIn w c) (hF : Blk w gF 51 (srchCells c NA NS.length nc mb))
  (hN : NtsAt w NA NS PS) (hs : StAt w s p) (hat : p.at_ < NS.length) (hth : (NS.getD p.at_ Nte.none).thread = (t : Int)) (ht : t < s.ln) (hk1 : ¬ (NS.getD p.at_ Nte.none).kind = 1)
  (hap : (p.l.getD t OpP.none).applied = true) (htl : tellsB c p.rec_ (PS.getD p.at_ NtP.none) = true) :
  Calls Tryz.prog 36 #[.pointer (some ⟨gF, 0, none⟩), strV s] w (RetSts (waysS c PS p) w) := by
 obtain ⟨L, hL, hLR, hLk⟩ := hs.l
 obtain ⟨cs, hcs, hcl, hps⟩ := hN.is_ p.at_ hat
 obtain ⟨bN, oN, hNA, hbN, hcN⟩ := hN.rd.at_ (by rw [rows_length]; simp only [Cellful.s]; omega)
 have hxc := note_cells (k := p.at_) (x := NS.getD p.at_ Nte.none) hcN hat rfl
 obtain ⟨bL, oL, hLA, hbL, hcL⟩ := hLR.at_ (by rw [rows_length]; simp only [Cellful.s]; omega)
 have hyc := opr_cells (k := t) (x := L.getD t Opr.none) hcL (by rw [hL]; exact ht) rfl
 have hyo := hLk t ht
 clear hcN hcL
 generalize hx : NS.getD p.at_ Nte.none = x at *
 generalize hy : L.getD t Opr.none = y at *
 have HYO := Zd hyo
 have hpth : (x.p cs).thread.toNat = t := by show x.thread.toNat = t; omega
 have hpk : ¬ (x.p cs).kind = 1 := hk1
 have HV : Hid (waysS c PS p = [⟨p.at_ + 1, p.rec_, p.l.set t ⟨x.kind == 2, true, (p.l.getD t OpP.none).seq, (p.l.getD t OpP.none).req⟩⟩]) := Zd (by
  unfold waysS
  rw [hps] at htl
  simp only [hps]
  rw [if_neg hpk, hpth, if_pos ⟨hap, htl⟩]
  rfl)
 rw [hps] at htl
 generalize waysS c PS p = R at *
 have HFT := Zd (fun W (hW : Below w.heap.size w W) => hFits_any c gF NA NS.length nc mb s x cs p.rec_ W hok (hc.below hW) (hF.below hW hF.lt) (hs.rd.below hW) hs.rn (by rw [hs.rn]; exact hs.rb) hs.big (by omega) (by have := hs.lb; omega))
 have HST := Zd hs
 have HLL := Zd hL
 have HLK := Zd hLk
 have HLR := Zd hLR
 have HOK := Zd hok
 have HCI := Zd hc
 have HFB := Zd hF
 have HAT := Zd hs.at_
 have hsl := hs.lb
 have hnf := hN.few
 have e1 : (x.kind == 1) = false := by simp [hk1]
 have hFN : w.cell? ⟨gF, 11, none⟩ = some (.slice NA NS.length nc) := hF.cell rfl
 have HFL := Zd hF.lt
 clear hs hN hps hcs hcl hLk hLR hyo hL hk1 hF hx hok hc hpk hpth
 obtain ⟨at_, RA, rn, rc, LA, ln, lc⟩ := s
 simp only at hLA HLL HLK HLR HAT ht hsl hnf HFT
 subst hLA hNA
 have HAE : Hid (at_ = (p.at_ : Int)) := Zd HAT.out
 clear HAT
 obtain rfl := HAE.out
 clear HAE
 generalize hpa : p.at_ = pa at *
 have HPA := Zd hpa
 clear hpa
 generalize hnl : NS.length = nn at *
 have HNL := Zd hnl
 clear hnl
 have q0 : (0 : Int) <= (pa : Int) := by omega
 have q1 : (pa : Int) < (nn : Int) := by omega
 have q2 : (0 : Int) <= (t : Int) := by omega
 have q3 : (t : Int) < (ln : Int) := by omega
 obtain ⟨c0, c1, c2, c3, c4, c5, c6, c7, c8, c9, c10, c11, c12⟩ := hxc
 obtain ⟨d0, d1, d2, d3, d4, d5, d6, d7⟩ := hyc
 rw [hth] at c1
 unfold strV nteV at HFT
 simp only [hth] at HFT
 have nb1 := Nat.ne_of_lt hbN
 have nb2 := Nat.ne_of_lt hbL
 have nb3 := Nat.ne_of_lt HFL.out
 have HY0 := Zd (Blk.new w 57 [.int .i64 pa, .slice RA rn rc, .slice (some ⟨bL, oL, none⟩) ln lc])
 have HB0 := Zd ((Below.refl w.heap.size w).alloc (Nat.le_refl _) (.cells #[.int .i64 pa, .slice RA rn rc, .slice (some ⟨bL, oL, none⟩) ln lc] 57))
 unfold strV
 simp only
 go_enter Tryz.func36, Tryz.ntmps36
 go_wp2_with fail
 go_region_held3 (fun w' => w'.cell? ⟨gF, 11, none⟩ = some (.slice (some ⟨bN, oN, none⟩) nn nc) /\ w'.cell? ⟨w.heap.size, 0, none⟩ = some (.int .i64 pa) /\ w'.cell? ⟨bN, oN + pa * 13, none⟩ = some (.int .i64 x.kind) /\ w'.cell? ⟨bN, oN + pa * 13 + 1, none⟩ = some (.int .i64 t) /\ w'.cell? ⟨bN, oN + pa * 13 + 2, none⟩ = some (.int .i64 x.seq) /\ w'.cell? ⟨bN, oN + pa * 13 + 3, none⟩ = some (.int .i64 x.time) /\ w'.cell? ⟨bN, oN + pa * 13 + 4, none⟩ = some (.int .i64 x.rkind) /\ w'.cell? ⟨bN, oN + pa * 13 + 5, none⟩ = some (.int .i64 x.rarg) /\ w'.cell? ⟨bN, oN + pa * 13 + 6, none⟩ = some (.int .i64 x.rvalue) /\ w'.cell? ⟨bN, oN + pa * 13 + 7, none⟩ = some (.bool x.rdef) /\ w'.cell? ⟨bN, oN + pa * 13 + 8, none⟩ = some (.slice x.ca x.cl x.cc) /\ w'.cell? ⟨bN, oN + pa * 13 + 9, none⟩ = some (.int .i64 x.qseq) /\ w'.cell? ⟨bN, oN + pa * 13 + 10, none⟩ = some (.int .i64 x.qcase) /\ w'.cell? ⟨bN, oN + pa * 13 + 11, none⟩ = some (.int .i64 x.qcode) /\ w'.cell? ⟨bN, oN + pa * 13 + 12, none⟩ = some (.int .i64 x.qvalue)) (go_keep) (fail)
 have HN1 := Zd (Blk.drew (Blk.new (w.alloc (.cells #[.int .i64 pa, .slice RA rn rc, .slice (some ⟨bL, oL, none⟩) ln lc] 57)) 44 [.int .i64 x.kind, .int .i64 t, .int .i64 x.seq, .int .i64 x.time, .int .i64 x.rkind, .int .i64 x.rarg, .int .i64 x.rvalue, .bool x.rdef, .slice x.ca x.cl x.cc, .int .i64 x.qseq, .int .i64 x.qcase, .int .i64 x.qcode, .int .i64 x.qvalue]))
 have HY1 := Zd (Blk.drew (HY0.out.alloc (.cells #[.int .i64 x.kind, .int .i64 t, .int .i64 x.seq, .int .i64 x.time, .int .i64 x.rkind, .int .i64 x.rarg, .int .i64 x.rvalue, .bool x.rdef, .slice x.ca x.cl x.cc, .int .i64 x.qseq, .int .i64 x.qcase, .int .i64 x.qcode, .int .i64 x.qvalue] 44)))
 have HB1 := Zd ((HB0.out.alloc HB0.out.size (.cells #[.int .i64 x.kind, .int .i64 t, .int .i64 x.seq, .int .i64 x.time, .int .i64 x.rkind, .int .i64 x.rarg, .int .i64 x.rvalue, .bool x.rdef, .slice x.ca x.cl x.cc, .int .i64 x.qseq, .int .i64 x.qcase, .int .i64 x.qcode, .int .i64 x.qvalue] 44)).drew)
 have HN1' : Hid ((w.alloc (.cells #[.int .i64 pa, .slice RA rn rc, .slice (some ⟨bL, oL, none⟩) ln lc] 57)).heap.size = w.heap.size + 1) := Zd (by simp)
 rw [HN1'.out] at HN1
 clear c0 c1 c2 c3 c4 c5 c6 c7 c8 c9 c10 c11 c12 hFN HY0 HB0 HN1'
 go_step
 generalize ((w.alloc (.cells #[.int .i64 pa, .slice RA rn rc, .slice (some ⟨bL, oL, none⟩) ln lc] 57)).alloc (.cells #[.int .i64 x.kind, .int .i64 t, .int .i64 x.seq, .int .i64 x.time, .int .i64 x.rkind, .int .i64 x.rarg, .int .i64 x.rvalue, .bool x.rdef, .slice x.ca x.cl x.cc, .int .i64 x.qseq, .int .i64 x.qcase, .int .i64 x.qcode, .int .i64 x.qvalue] 44)).drew = W1 at *
 have y0 := HY1.out.cell (i := 0) rfl
 have y1 := HY1.out.cell (i := 1) rfl
 have y2 := HY1.out.cell (i := 2) rfl
 have v0 := HN1.out.cell (i := 0) rfl
 have v1 := HN1.out.cell (i := 1) rfl
 have v2 := HN1.out.cell (i := 2) rfl
 have v4 := HN1.out.cell (i := 4) rfl
 have v5 := HN1.out.cell (i := 5) rfl
 have v6 := HN1.out.cell (i := 6) rfl
 have v7 := HN1.out.cell (i := 7) rfl
 have v8 := HN1.out.cell (i := 8) rfl
 have hbc := fun o => HB1.out.cell (p := ⟨bL, o, none⟩) hbL
 have hl0 : w.heap.size < W1.heap.size := HY1.out.lt
 have hl1 : w.heap.size + 1 < W1.heap.size := HN1.out.lt
 have hl2 : bL < W1.heap.size := Nat.lt_of_lt_of_le hbL HB1.out.size
 have HB2 := Zd (fun o o' => HB1.out.trans ((below_two W1 o o').mono HB1.out.size))
 rw [htl] at HFT
 have hyap : y.applied = true := HYO.out.2.2.1.trans hap
 rw [hyap] at d7
 have HYAP := Zd hyap
 clear hyap
 have hv3 := HN1.out.cell (i := 3) rfl
 have hv9 := HN1.out.cell (i := 9) rfl
 have hv10 := HN1.out.cell (i := 10) rfl
 have hv11 := HN1.out.cell (i := 11) rfl
 have hv12 := HN1.out.cell (i := 12) rfl
 have HWT := Zd (fun W (hW : Below w.heap.size w W) => hWith_any ⟨(pa : Int) + 1, RA, rn, rc, some ⟨bL, oL, none⟩, ln, lc⟩ L t ⟨y.q, y.seq, x.kind == 2, true⟩ W HLL.out hsl ht (HLR.out.below hW))
 unfold strV oprV at HWT
 simp only at HWT
 clear hap htl
 go_wp2_with (first
  | (refine (HFT.out _ (HB2.out _ _)).mono ?_
     rintro er w2 ⟨rfl, hb2⟩
     have HXB := Zd (((Blk.new W1 63 [.int .i64 y.q.kind, .int .i64 y.q.arg, .int .i64 y.q.value, .bool y.q.dflt, .slice y.q.A y.q.n y.q.c, .int .i64 y.seq, .bool y.on, .bool true]).alloc (.cells #[.int .i64 ((pa : Int) + 1), .slice RA rn rc, .slice (some ⟨bL, oL, none⟩) ln lc] 57)).below hb2 (by simp; omega))
     have HNB := Zd ((blk_new (w := W1.alloc (.cells #[.int .i64 y.q.kind, .int .i64 y.q.arg, .int .i64 y.q.value, .bool y.q.dflt, .slice y.q.A y.q.n y.q.c, .int .i64 y.seq, .bool y.on, .bool true] 63)) (g := W1.heap.size + 1) (cs := [.int .i64 ((pa : Int) + 1), .slice RA rn rc, .slice (some ⟨bL, oL, none⟩) ln lc]) (t := 57) (by simp)).below hb2 (by simp))
     have HW2 := Zd ((below_two W1 _ _).trans (hb2.mono (below_two W1 _ _).size))
     have HS2 := Zd (HY1.out.below HW2.out HY1.out.lt)
     have HO2 := Zd (HN1.out.below HW2.out HN1.out.lt)
     clear hb2
     clear y0 y1 y2 v0 v1 v2 v4 v5 v6 v7 v8
     have x0 := HXB.out.cell (i := 0) rfl
     have x1 := HXB.out.cell (i := 1) rfl
     have x2 := HXB.out.cell (i := 2) rfl
     have x3 := HXB.out.cell (i := 3) rfl
     have x4 := HXB.out.cell (i := 4) rfl
     have x5 := HXB.out.cell (i := 5) rfl
     have x6 := HXB.out.cell (i := 6) rfl
     have zx6 := HXB.out.frozen 6
     have x7 := HXB.out.cell (i := 7) rfl
     have m0 := HNB.out.cell (i := 0) rfl
     have m1 := HNB.out.cell (i := 1) rfl
     have m2 := HNB.out.cell (i := 2) rfl
     have y0 := HS2.out.cell (i := 0) rfl
     have y1 := HS2.out.cell (i := 1) rfl
     have y2 := HS2.out.cell (i := 2) rfl
     have v0 := HO2.out.cell (i := 0) rfl
     have v1 := HO2.out.cell (i := 1) rfl
     have v2 := HO2.out.cell (i := 2) rfl
     have v3 := HO2.out.cell (i := 3) rfl
     have v4 := HO2.out.cell (i := 4) rfl
     have v5 := HO2.out.cell (i := 5) rfl
     have v6 := HO2.out.cell (i := 6) rfl
     have v7 := HO2.out.cell (i := 7) rfl
     have v8 := HO2.out.cell (i := 8) rfl
     have v9 := HO2.out.cell (i := 9) rfl
     have v10 := HO2.out.cell (i := 10) rfl
     have v11 := HO2.out.cell (i := 11) rfl
     have v12 := HO2.out.cell (i := 12) rfl)
  | (have HB3 := Zd ((HB1.out.trans (HW2.out.mono HB1.out.size)).setCell (p := ⟨W1.heap.size, 6, none⟩) HB1.out.size (.bool (x.kind == 2)))
     refine (HWT.out _ HB3.out).mono ?_
     rintro er w3 ⟨A2, c2, rfl, how3, hb3⟩
     have HO3 := Zd how3
     have HW3 := Zd hb3
     unfold strV
     simp only
     clear how3 hb3))
 go_ret
 have hb2 := HB3.out.trans (HW3.out.mono HB3.out.size)
 have hsa : StAt w3 ⟨(pa : Int) + 1, RA, rn, rc, A2, ln, c2⟩ ⟨pa + 1, p.rec_, p.l.set t ⟨x.kind == 2, true, (p.l.getD t OpP.none).seq, (p.l.getD t OpP.none).req⟩⟩ := by
  have h := HST.out.with_ HB3.out HLL.out HLK.out ht (x := ⟨y.q, y.seq, x.kind == 2, true⟩) (y := ⟨x.kind == 2, true, (p.l.getD t OpP.none).seq, (p.l.getD t OpP.none).req⟩) ⟨HYO.out.1, rfl, rfl, HYO.out.2.2.2⟩ (pa + 1) HO3.out HW3.out
  rw [show (((pa + 1 : Nat) : Int)) = (pa : Int) + 1 by omega] at h
  exact h
 have hal := (Below.refl w3.heap.size w3).alloc (Nat.le_refl _) (.cells #[.int .i64 ((pa : Int) + 1), .slice RA rn rc, .slice A2 ln c2] 57)
 refine ⟨some ⟨w3.heap.size, 0, none⟩, 1, [⟨(pa : Int) + 1, RA, rn, rc, A2, ln, c2⟩], rfl, by rw [HV.out]; rfl, (blk_new (cs := rows [(⟨(pa : Int) + 1, RA, rn, rc, A2, ln, c2⟩ : Str)]) rfl).rd, fun k hk => ?_, hb2.trans (hal.mono hb2.size)⟩
 rw [HV.out] at hk ⊢
 obtain rfl : k = 0 := by simpa using hk
 exact hsa.below hal
theorem own_rc {w : World} {base : Nat} {e : TypeId} {s n : Nat} {A : Option Addr} {c : Nat} {xs : List Value} (h : w.ownsRow base e s (.slice A n c) n xs) : n <= c := by
 rcases h.2 with ⟨hv, hn⟩ | ⟨g, cap, cur, hv, _, _, hc, _⟩
 . omega
 . injection hv with _ _ h3
   omega
structure StNew (w w' : World) (s : Str) (p : StP) : Prop where
 at_ : s.at_ = p.at_
 rn : p.rec_.length = s.rn
 rc : s.rn <= s.rc
 rb : s.rn <= 1048576
 rd : Rd w s.RA (words p.rec_) ∨ w'.ownsRow w.heap.size 95 1 (.slice s.RA s.rn s.rc) s.rn (words p.rec_)
 big : ∀ x ∈ p.rec_, 0 <= x /\ x < 18446744073709551616
 ln : p.l.length = s.ln
 lb : s.ln <= 4096
 l : ∃ L : List Opr, L.length = s.ln /\ w'.ownsRow w.heap.size 63 8 (.slice s.LA s.ln s.lc) s.ln (rows L) /\ ∀ k, k < s.ln -> OprIs w (L.getD k Opr.none) (p.l.getD k OpP.none)
theorem StNew.at {w w' : World} {s : Str} {p : StP} (h : StNew w w' s p) (hb : Below w.heap.size w w') : StAt w' s p := by
 obtain ⟨L, h1, h2, h3⟩ := h.l
 refine ⟨h.at_, h.rn, h.rc, h.rb, ?_, h.big, h.ln, h.lb, L, h1, own_rd h2, fun k hk => (h3 k hk).below hb⟩
 rcases h.rd with h4 | h4
 . exact h4.below hb
 . exact own_rd h4
theorem StNew.below {w w' w'' : World} {s : Str} {p : StP} (h : StNew w w' s p) (hb : Below w'.heap.size w' w'') : StNew w w'' s p := by
 obtain ⟨L, h1, h2, h3⟩ := h.l
 exact ⟨h.at_, h.rn, h.rc, h.rb, h.rd.imp id (fun h4 => own_below h4 hb), h.big, h.ln, h.lb, L, h1, own_below h2 hb, h3⟩
theorem StNew.grown {w w' w'' : World} {s : Str} {p : StP} (h : StNew w w' s p) {base n : Nat} {v : Value} {xs : List Value} (ho : w'.ownsRow base 57 3 v n xs) (hg : w'.grownBy w'' v.ownBlock) : StNew w w'' s p := by
 obtain ⟨L, h1, h2, h3⟩ := h.l
 exact ⟨h.at_, h.rn, h.rc, h.rb, h.rd.imp id (fun h4 => own_grown_ty h4 ho (by decide) hg), h.big, h.ln, h.lb, L, h1, own_grown_ty h2 ho (by decide) hg, h3⟩
structure StsIn (w W1 wr : World) (A : Option Addr) (c : Nat) (S : List Str) (ps : List StP) : Prop where
 row : wr.ownsRow W1.heap.size 57 3 (.slice A S.length c) S.length (rows S)
 len : S.length = ps.length
 at_ : ∀ k, k < ps.length -> StNew w wr (S.getD k Str.none) (ps.getD k ⟨0, [], []⟩)
theorem StsIn.nil (w W1 wr : World) : StsIn w W1 wr none 0 [] [] := ⟨own_nil _ _ _ _, rfl, fun k hk => absurd hk (by simp)⟩
theorem StsIn.below {w W1 wr w' : World} {A : Option Addr} {c : Nat} {S : List Str} {ps : List StP} (h : StsIn w W1 wr A c S ps) (hb : Below wr.heap.size wr w') : StsIn w W1 w' A c S ps :=
 ⟨own_below h.row hb, h.len, fun k hk => (h.at_ k hk).below hb⟩
theorem StsIn.put {w W1 wr w' : World} {A A' : Option Addr} {c c' : Nat} {S : List Str} {ps : List StP} (h : StsIn w W1 wr A c S ps) {s : Str} {p : StP} (hn : StNew w wr s p)
  (ho : w'.ownsRow W1.heap.size 57 3 (.slice A' (S.length + 1) c') (S.length + 1) (rows (S ++ [s]))) (hg : wr.grownBy w' (Value.ownBlock (.slice A S.length c))) : StsIn w W1 w' A' c' (S ++ [s]) (ps ++ [p]) := by
 refine ⟨by rw [List.length_append]; exact ho, by simp [h.len], fun k hk => ?_⟩
 have hl := h.len
 by_cases e : k < ps.length
 . have h3 := (h.at_ k e).grown h.row hg
   simp only [List.getD_eq_getElem?_getD] at h3 ⊢
   rw [List.getElem?_append_left (by omega), List.getElem?_append_left e]
   exact h3
 . obtain rfl : k = ps.length := by simp at hk; omega
   simp only [List.getD_eq_getElem?_getD]
   rw [List.getElem?_append_right (by omega), List.getElem?_append_right (Nat.le_refl _), hl]
   simp only [Nat.sub_self]
   exact hn.grown h.row hg
theorem StsIn.ret {w W1 wr w' : World} {A : Option Addr} {c : Nat} {S : List Str} {ps : List StP} (h : StsIn w W1 wr A c S ps) (hb : Below w.heap.size w wr) (h' : wr = w') : RetSts ps w (.returned (.slice A S.length c)) w' := by
 subst h'
 exact ⟨A, c, S, rfl, h.len, own_rd h.row, fun k hk => (h.at_ k hk).at hb, hb⟩
theorem set_is {w : World} {n t : Nat} {L : List Opr} {l : List OpP} {x : Opr} {y : OpP} (hL : L.length = n) (hl : l.length = n) (hLk : ∀ k, k < n -> OprIs w (L.getD k Opr.none) (l.getD k OpP.none)) (ht : t < n) (hx : OprIs w x y) :
  ∀ k, k < n -> OprIs w ((L.set t x).getD k Opr.none) ((l.set t y).getD k OpP.none) := fun k hk => by
 rw [set_at L Opr.none (by rw [hL]; exact ht), set_at l OpP.none (by rw [hl]; exact ht)]
 by_cases e : k = t
 . rw [if_pos e, if_pos e]; exact hx
 . rw [if_neg e, if_neg e]; exact hLk k hk
theorem StAt.eff {w w6 : World} {s : Str} {p : StP} (h : StAt w s p) {L : List Opr} (hL : L.length = s.ln) (hLk : ∀ k, k < s.ln -> OprIs w (L.getD k Opr.none) (p.l.getD k OpP.none)) {t : Nat} (ht : t < s.ln) {x : Opr} {y : OpP} (hx : OprIs w x y)
  {R3 A : Option Addr} {rn3 rc3 c : Nat} {rec' : List Int} (hrl : rec'.length = rn3) (hrb : rn3 <= 1048576) (hbig : ∀ x ∈ rec', 0 <= x /\ x < 18446744073709551616) (hor : w6.ownsRow w.heap.size 95 1 (.slice R3 rn3 rc3) rn3 (words rec'))
  (hol : w6.ownsRow w.heap.size 63 8 (.slice A s.ln c) s.ln (rows (L.set t x))) : StNew w w6 ⟨s.at_, R3, rn3, rc3, A, s.ln, c⟩ ⟨p.at_, rec', p.l.set t y⟩ :=
 ⟨h.at_, hrl, own_rc hor, hrb, .inr hor, hbig, by simpa using h.ln, h.lb, L.set t x, by simpa using hL, hol, set_is hL h.ln hLk ht hx⟩
theorem StAt.stands {w w6 : World} {s : Str} {p : StP} (h : StAt w s p) {L : List Opr} (hL : L.length = s.ln) (hLk : ∀ k, k < s.ln -> OprIs w (L.getD k Opr.none) (p.l.getD k OpP.none)) {t : Nat} (ht : t < s.ln) {x : Opr} {y : OpP} (hx : OprIs w x y) (at2 : Nat)
  {A : Option Addr} {c : Nat} (hol : w6.ownsRow w.heap.size 63 8 (.slice A s.ln c) s.ln (rows (L.set t x))) : StNew w w6 ⟨at2, s.RA, s.rn, s.rc, A, s.ln, c⟩ ⟨at2, p.rec_, p.l.set t y⟩ :=
 ⟨rfl, h.rn, h.rc, h.rb, .inl h.rd, h.big, by simpa using h.ln, h.lb, L.set t x, by simpa using hL, hol, set_is hL h.ln hLk ht hx⟩
theorem effK_len (c : Cfg) (s : StP) : ∀ k, (effK c s k).length <= k
 | 0 => Nat.le_refl 0
 | k + 1 => by
   have := effK_len c s k
   unfold effK
   simp only
   split
   . simp; omega
   . simp; omega
theorem oprIs_none (w : World) (seq : Int) : OprIs w ⟨Reqr.none, seq, false, false⟩ ⟨false, false, seq, ReqP.none⟩ := ⟨rfl, rfl, rfl, [], ⟨rfl, .inl rfl⟩, by simp, rfl⟩
end Go.Proofs.YtieglgahfeecbaaGreatDoor
