/- object: of a queue: behind a call: walked. -/
import Derived.Test.YtieglgahfeecbaaGreatDoorA20
import Derived.Test.YtieglgahfeecbaaGreatDoorA19
import Derived.Test.YtieglgahfeecbaaGreatDoorA9
namespace Go.Proofs.YtieglgahfeecbaaGreatDoor
open Go.RowKit Go.Sort Go.Lib

theorem byte_info : (Tryz.prog.info? 5).map (fun i => (i.zero, i.size, i.bytes)) = some (some (.int .u8 0), 1, 1) := by kernel_rfl
theorem u8s_one (l : List UInt8) : ∀ v ∈ u8s l, v.oneCell' = true := by
  intro v hv
  simp only [u8s, List.mem_map] at hv
  obtain ⟨b, _, rfl⟩ := hv
  rfl

set_option maxHeartbeats 8000000 in
set_option maxRecDepth 100000 in
theorem fmtApp16 (base : Nat) (A : Option Addr) (n c : Nat) (xs : List UInt8) (u : Nat) (hu : u < 18446744073709551616) (w : World) (ht : Tz16 w) (hn : xs.length = n) (hn2 : n ≤ 1099511627776) (hbs : base ≤ w.heap.size) (hown : w.ownsRow base 5 1 (.slice A n c) n (u8s xs)) :
    Calls Tryz.prog 128 #[.slice A n c, .int .u64 u, .int .i64 16, .bool false, .bool true] w fun e w' => ∃ A' c', e = .returned (.tuple #[.slice A' (n + (hexDigits u).length) c', .string ⟨#[]⟩]) ∧ w'.ownsRow base 5 1 (.slice A' (n + (hexDigits u).length) c') (n + (hexDigits u).length) (u8s (xs ++ hexDigits u)) ∧ Below base w w' := by
  have hlen := hex_length 15 u (by simpa using hu)
  have HT := Lib.hid ht
  have HOW := Lib.hid hown
  have HXL := Lib.hid hn
  generalize hd : hexDigits u = D at *
  have HD := Lib.hid hd
  have HLN := Lib.hid hlen
  clear hd hlen hown hn ht
  have HB0 := Lib.hid (show Blk (w.alloc (.cells Tryz.zeroCells198 198)) w.heap.size 198 (List.replicate 65 (Value.int .u8 0)) from by rw [zero65]; exact Blk.new w _ _)
  have HW0 := Lib.hid ((Below.refl w.heap.size w).alloc (Nat.le_refl _) (.cells Tryz.zeroCells198 198))
  go_enter Tryz.func128, Tryz.ntmps128
  go_wp2_with (first | (go_at_call 160; refine (isPow16 _).mono ?_; rintro e w2 ⟨rfl, rfl⟩) | (go_at_call 161; refine (tz16 _ (HT.out.below ((Below.refl _ _).alloc (Nat.le_refl _) _))).mono ?_; rintro e w3 ⟨rfl, rfl⟩))
  generalize hg : w.heap.size = gb at *
  have HGB := Lib.hid hg
  generalize w.alloc (.cells Tryz.zeroCells198 198) = w1 at *
  clear hg
  go_loopg [1, 13] u (fun g uv i wr => ∃ (v k : Nat) (ds : List UInt8) (cs : List Value), g = v ∧ v < 18446744073709551616 ∧ uv = .int .u64 v ∧ i = .int .i64 k ∧ D = hexDigits v ++ ds ∧ k + ds.length = 65 ∧ cs.length = 65 ∧ cs.drop k = u8s ds ∧ Blk wr gb 198 cs ∧ Below gb w wr)
  case atStart => exact ⟨u, 65, [], _, rfl, hu, rfl, rfl, by rw [HD.out]; simp, rfl, by simp, by simp [u8s], HB0.out, HW0.out⟩
  case round =>
    obtain ⟨v, k, ds, cs, hgv, hv, rfl, rfl, hD, hkd, hcl, hcd, hblk, hb⟩ := hrel
    have HG := Lib.hid hgv
    have HDD := Lib.hid hD
    have HCL := Lib.hid hcl
    have HCD := Lib.hid hcd
    have HKD := Lib.hid hkd
    have HBK := Lib.hid hblk
    have HB := Lib.hid hb
    have hk1 : 49 ≤ k := by
      have h1 := HLN.out; rw [hD, List.length_append] at h1; omega
    have hk2 : k ≤ 65 := by omega
    clear hgv hD hcl hcd hblk hb hkd
    have h65 : k - 1 < cs.length := by rw [HCL.out]; omega
    have hcell := HBK.out.cell (i := k - 1) (v := cs[k - 1]) (List.getElem?_eq_getElem h65)
    have hfz := HBK.out.frozen (k - 1)
    have w1' : IntKind.i64.wrap ((k : Int) - 1) = ((k - 1 : Nat) : Int) := by rw [show (k : Int) - 1 = ((k - 1 : Nat) : Int) by omega]; exact IntWalk.i64_in _ (by omega)
    have q1 : (0 : Int) ≤ ((k - 1 : Nat) : Int) := by omega
    have q2 : ((k - 1 : Nat) : Int) < 65 := by omega
    by_cases h16 : 16 ≤ v
    · have t0 : ((16 : Int) ≤ (v : Int)) := by omega
      have a1 := and15 v hv
      have hx := hexd_at (v % 16) (by omega)
      have q3 : (0 : Int) ≤ ((v % 16 : Nat) : Int) := by omega
      have q4 : ((v % 16 : Nat) : Int) < 36 := by omega
      clear hx
      have HX := Lib.hid (hexd_get (v % 16) (by omega))
      go_wp2
      go_roundg (v / 16)
      case measure => rw [HG.out]; omega
      case rel =>
        refine ⟨v / 16, k - 1, hexd (v % 16) :: ds, cs.set (k - 1) _, rfl, by omega, by simp, rfl, by rw [HDD.out, hex_step h16]; simp, by have := HKD.out; simp; omega, by rw [List.length_set]; exact HCL.out, ?_, HBK.out.set_ _ _, HB.out.setCell (p := ⟨gb, k - 1, none⟩) (Nat.le_refl _) _⟩
        rw [drop_set_one h65, show k - 1 + 1 = k by omega, HCD.out, HX.out (Nat.lt_of_lt_of_le (Nat.mod_lt v (by decide : 0 < 16)) (by decide))]
        rfl
    · have t0 : ¬ ((16 : Int) ≤ (v : Int)) := by omega
      have HX := Lib.hid (hexd_get v (by omega))
      have q3 : (0 : Int) ≤ (v : Int) := by omega
      have q4 : (v : Int) < 36 := by omega
      have hal : Tryz.prog.arrayLen 198 = 65 := by kernel_rfl
      have hsl : ∀ W, (Instr.sliceAt 198 (.pointer (some ⟨gb, 0, none⟩)) (some (.int .i64 ((k - 1 : Nat) : Int))) none none).run Tryz.prog W = .ok (.slice (some ⟨gb, k - 1, none⟩) (65 - (k - 1)) (65 - (k - 1))) W := fun W => by
        rw [run_sliceAt_array_l W 198 ⟨gb, 0, none⟩ (by simp [Program.arrayLen, Program.elem, Tryz.underlying198]) .i64 ((k - 1 : Nat) : Int) (by omega) (by rw [hal]; omega)]
        rw [hal]
        go_simp
        omega
      clear hal
      have hfin := HBK.out.set_ (k - 1) (.int .u8 ((hexd v).toNat : Int))
      have hrest := drop_set_one h65 (.int .u8 ((hexd v).toNat : Int))
      rw [show k - 1 + 1 = k by omega, HCD.out] at hrest
      have hDl : D.length = 65 - (k - 1) := by have := HKD.out; rw [HDD.out, hex_last (by omega)]; simp; omega
      have HF := Lib.hid (HB.out.setCell (p := ⟨gb, k - 1, none⟩) (Nat.le_refl _) (.int .u8 ((hexd v).toNat : Int)))
      have HRD : RowKit.Hid (Rd (wr.setCell ⟨gb, k - 1, none⟩ (.int .u8 ((hexd v).toNat : Int))) (some ⟨gb, k - 1, none⟩) (u8s D)) := Lib.hid (.inr ⟨gb, k - 1, rfl, hfin.lt, fun j z hj => by
        refine hfin.cell ?_
        rw [← List.getElem?_drop, hrest, ← hj, HDD.out, hex_last (by omega)]
        rfl⟩)
      have HLL : RowKit.Hid (D.length = 65 - (k - 1)) := Lib.hid hDl
      have hDl2 : 65 - (k - 1) ≤ 16 := by have := HLN.out; omega
      clear hfin hrest hDl
      go_upto_region 25 with fail
      rw [HX.out _]
      generalize wr.setCell ⟨gb, k - 1, none⟩ (.int .u8 ((hexd v).toNat : Int)) = W2 at *
      have HF2 : RowKit.Hid (Below w.heap.size w W2) := Lib.hid (HF.out.mono (Nat.le_of_eq HGB.out))
      go_wp2_with (first
        | (at_builtin
           refine wpList_app rfl (.tmp 95) (.tmp 97) 113 5 rfl base (.int .u8 0) 1 1 Tryz.underlying113 byte_info rfl (by decide) A n c (u8s xs) rfl (own_below HOW.out HF2.out) (some ⟨gb, k - 1, none⟩) (65 - (k - 1)) (65 - (k - 1)) (u8s D) rfl (by simp) (by rw [← HLL.out]; simp [u8s]) HRD.out (u8s_one _) (n + (65 - (k - 1))) rfl (u8s (xs ++ D)) (by simp [u8s]) (by unfold maxLen; omega) (by omega) (by have := HF2.out.size; have := HGB.out; omega) ?_
           intro A3 c3 w8 hown3 hg3 hb8)
        | fail)
      go_ret2
      rw [HLL.out]
      exact ⟨A3, c3, rfl, hown3, (HF2.out.mono (by have := HGB.out; omega)).trans hb8⟩

/-- Handed back: bytes in a row of one's own. -/
def RetBs (base n : Nat) (xs : List UInt8) (w : World) (e : Ending) (w' : World) : Prop :=
  ∃ A c, e = .returned (.slice A n c) ∧ w'.ownsRow base 5 1 (.slice A n c) n (u8s xs) ∧ Below base w w'

set_option maxHeartbeats 4000000 in
set_option maxRecDepth 100000 in
theorem iAppU16 (base : Nat) (A : Option Addr) (n c : Nat) (xs : List UInt8) (u : Nat) (hu : u < 18446744073709551616) (w : World) (ht : Tz16 w) (hn : xs.length = n) (hn2 : n ≤ 1099511627776) (hbs : base ≤ w.heap.size) (hown : w.ownsRow base 5 1 (.slice A n c) n (u8s xs)) :
    Calls Tryz.prog 99 #[.slice A n c, .int .u64 u, .int .i64 16] w (RetBs base (n + (hexDigits u).length) (xs ++ hexDigits u) w) := by
  have HF := Lib.hid (fmtApp16 base A n c xs u hu w ht hn hn2 hbs hown)
  clear ht hown hn
  go_enter Tryz.func99, Tryz.ntmps99
  go_wp2_with (first
    | (go_at_call 128
       refine HF.out.mono ?_
       rintro e w' ⟨A1, c1, rfl, ho, hb⟩)
    | fail)
  go_ret
  exact ⟨A1, c1, rfl, ho, hb⟩
set_option maxHeartbeats 4000000 in
theorem appU16 (base : Nat) (A : Option Addr) (n c : Nat) (xs : List UInt8) (u : Nat) (hu : u < 18446744073709551616) (w : World) (ht : Tz16 w) (hn : xs.length = n) (hn2 : n ≤ 1099511627776) (hbs : base ≤ w.heap.size) (hown : w.ownsRow base 5 1 (.slice A n c) n (u8s xs)) :
    Calls Tryz.prog 66 #[.slice A n c, .int .u64 u, .int .i64 16] w (RetBs base (n + (hexDigits u).length) (xs ++ hexDigits u) w) := by
  have HF := Lib.hid (iAppU16 base A n c xs u hu w ht hn hn2 hbs hown)
  clear ht hown hn
  go_enter Tryz.func66, Tryz.ntmps66
  go_wp2_with (first
    | (go_at_call 99
       refine HF.out.mono ?_
       rintro e w' ⟨A1, c1, rfl, ho, hb⟩)
    | fail)
  go_ret
  exact ⟨A1, c1, rfl, ho, hb⟩
set_option maxHeartbeats 4000000 in
theorem iAppI16 (u : Nat) (hu : u < 9223372036854775808) (w : World) (ht : Tz16 w) :
    Calls Tryz.prog 98 #[.slice none 0 0, .int .i64 u, .int .i64 16] w (RetBs w.heap.size (hexDigits u).length (hexDigits u) w) := by
  have hf := iAppU16 w.heap.size none 0 0 [] u (by omega) w ht rfl (by omega) (Nat.le_refl _) (own_nil _ _ _ _)
  rw [Nat.zero_add, List.nil_append] at hf
  have HF := Lib.hid hf
  clear hf
  clear ht
  have w1 : IntKind.u64.wrap (u : Int) = u := IntWalk.u64_in _ (by omega)
  have t0 : ¬ (u : Int) < 0 := by omega
  go_enter Tryz.func98, Tryz.ntmps98
  go_wp2_with (first
    | (go_at_call 99
       refine HF.out.mono ?_
       rintro e w' ⟨A1, c1, rfl, ho, hb⟩)
    | fail)
  go_ret
  exact ⟨A1, c1, rfl, ho, hb⟩
set_option maxHeartbeats 4000000 in
theorem appI16 (u : Nat) (hu : u < 9223372036854775808) (w : World) (ht : Tz16 w) :
    Calls Tryz.prog 65 #[.slice none 0 0, .int .i64 u, .int .i64 16] w (RetBs w.heap.size (hexDigits u).length (hexDigits u) w) := by
  have HF := Lib.hid (iAppI16 u hu w ht)
  clear ht
  go_enter Tryz.func65, Tryz.ntmps65
  go_wp2_with (first
    | (go_at_call 98
       refine HF.out.mono ?_
       rintro e w' ⟨A1, c1, rfl, ho, hb⟩)
    | fail)
  go_ret
  exact ⟨A1, c1, rfl, ho, hb⟩

end Go.Proofs.YtieglgahfeecbaaGreatDoor

namespace Go.Proofs.YtieglgahfeecbaaGreatDoor
open Go.RowKit Go.Sort
attribute [local go_sem ↓] Go.wp_at_zero Go.wp_at_succ

set_option maxHeartbeats 8000000 in
set_option maxRecDepth 100000 in
theorem oStart_no (c : Cfg) (w : World) (hc : CfgIn w c) (hk : chkB c = false) : Calls Tryz.prog 17 #[cfgV c] w (RetWords (startO c) w) := by
  have HV : RowKit.Hid (startO c = []) := Lib.hid (by simp [startO, hk])
  have HB := Lib.hid ((Below.refl w.heap.size w).alloc (Nat.le_refl _) (.cells #[.int .i64 c.kind, .int .i64 c.threads, .int .i64 c.chans, .int .i64 c.cap, .int .i64 c.nodes, .int .i64 c.retire, .int .i64 c.patience, .int .i64 c.tags, .int .i64 c.seqs, .int .i64 c.gens, .slice c.sa c.start.length c.sc] 24))
  have HCK := Lib.hid (fun W (hb : Below w.heap.size w W) => Check_no c W (hc.below hb) hk)
  generalize startO c = R at *
  clear hc hk
  unfold cfgV at HCK ⊢
  go_enter Tryz.func17, Tryz.ntmps17
  go_wp2_with (refine (HCK.out _ HB.out).mono ?_; rintro er w1 ⟨rfl, hb1⟩; have HB1 := Lib.hid (HB.out.trans (hb1.mono HB.out.size)); clear hb1)
  go_ret
  refine ⟨none, 0, by rw [HV.out]; rfl, by rw [HV.out]; exact own_nil _ _ _ _, HB1.out⟩

theorem clr_few1 {x : Clr} {cap : Int} {n : Nat} (h : x.p = ⟨cap, [], List.replicate n Resr.none⟩) (_hn : n ≤ 64) : x.list.length ≤ 1048576 := by
  have : x.list = [] := congrArg CellsP.list h
  rw [this]; exact Nat.zero_le _
theorem clr_few2 {x : Clr} {cap : Int} {n : Nat} (h : x.p = ⟨cap, [], List.replicate n Resr.none⟩) (hn : n ≤ 64) : x.done.length ≤ 4096 := by
  have : x.done = List.replicate n Resr.none := congrArg CellsP.done h
  rw [this, List.length_replicate]; omega

set_option maxHeartbeats 8000000 in
set_option maxRecDepth 100000 in
theorem oStart_cells (c : Cfg) (w : World) (hc : CfgIn w c) (hk : chkB c = true) (hk3 : ¬ c.kind = 3) : Calls Tryz.prog 17 #[cfgV c] w (RetWords (startO c) w) := by
  have hcap := chk_cap hk
  have HV : RowKit.Hid (startO c = putC c ⟨c.cap, [], List.replicate (clampI c.threads 64) Resr.none⟩) := Lib.hid (by simp [startO, hk, hk3])
  have e3 : (c.kind == 3) = false := by simp [hk3]
  obtain ⟨tn, htn⟩ : ∃ n : Nat, c.threads = n := ⟨c.threads.toNat, by omega⟩
  have hcl : clampI c.threads 64 = tn := by unfold clampI; omega
  rw [hcl] at HV
  have HNW : RowKit.Hid (∀ W, Calls Tryz.prog 40 #[.int .i64 c.cap, .int .i64 c.threads] W (RetClr ⟨c.cap, [], List.replicate tn Resr.none⟩ W)) := Lib.hid (fun W => by rw [htn]; exact fNew_any c.cap tn W (by omega) (by omega))
  have HBX := Lib.hid (BoxC.new w c)
  have HB := Lib.hid ((Below.refl w.heap.size w).alloc (Nat.le_refl _) (.cells #[.int .i64 c.kind, .int .i64 c.threads, .int .i64 c.chans, .int .i64 c.cap, .int .i64 c.nodes, .int .i64 c.retire, .int .i64 c.patience, .int .i64 c.tags, .int .i64 c.seqs, .int .i64 c.gens, .slice c.sa c.start.length c.sc] 24))
  have HCK := Lib.hid (fun W (hb : Below w.heap.size w W) => Check_ok c W (hc.below hb) hk)
  have HPC := Lib.hid (fun W x (hb : Below w.heap.size w W) (hx : ClrAt W x) => kPutC_any c x W (hc.below hb) hx)
  have HTN := Lib.hid htn
  have hn64 : tn ≤ 64 := by omega
  generalize startO c = R at *
  clear hc hk hk3 hcl hcap htn
  unfold cfgV at HCK HPC ⊢
  go_enter Tryz.func17, Tryz.ntmps17
  go_wp2_with (refine (HCK.out _ HB.out).mono ?_; rintro er w1 ⟨rfl, hb1⟩; have HB1 := Lib.hid (HB.out.trans (hb1.mono HB.out.size)); have HC1 := Lib.hid (HBX.out.below hb1); clear hb1; obtain ⟨f0, f1, f2, f3, f4, f5, f6, f7, f8, f9, f10⟩ := HC1.out.all)
  have hg0 : w.heap.size < w1.heap.size := HC1.out.1
  go_region_held3 (fun w' => w'.cell? ⟨w.heap.size, 0, none⟩ = some (.int .i64 c.kind) ∧ w'.cell? ⟨w.heap.size, 1, none⟩ = some (.int .i64 c.threads) ∧ w'.cell? ⟨w.heap.size, 2, none⟩ = some (.int .i64 c.chans) ∧ w'.cell? ⟨w.heap.size, 3, none⟩ = some (.int .i64 c.cap) ∧ w'.cell? ⟨w.heap.size, 4, none⟩ = some (.int .i64 c.nodes) ∧ w'.cell? ⟨w.heap.size, 5, none⟩ = some (.int .i64 c.retire) ∧ w'.cell? ⟨w.heap.size, 6, none⟩ = some (.int .i64 c.patience) ∧ w'.cell? ⟨w.heap.size, 7, none⟩ = some (.int .i64 c.tags) ∧ w'.cell? ⟨w.heap.size, 8, none⟩ = some (.int .i64 c.seqs) ∧ w'.cell? ⟨w.heap.size, 9, none⟩ = some (.int .i64 c.gens) ∧ w'.cell? ⟨w.heap.size, 10, none⟩ = some (.slice c.sa c.start.length c.sc)) (first | go_keep | (simp only [hk1]; go_keep)) (first
    | (go_at_call 40; refine (HNW.out _).mono ?_; rintro er w2 ⟨x, rfl, hp, hown, hb2⟩; have hL1 := clr_few1 hp hn64; have hD1 := clr_few2 hp hn64; have hB2 : Below w1.heap.size w1 w2 := ⟨hb2.os, hb2.tape, hb2.output, hb2.size, hb2.block⟩; have hk1 := fun o => hB2.cell (p := ⟨w.heap.size, o, none⟩) hg0)
    | (go_at_call 39; refine (HPC.out _ _ (HB1.out.trans (hB2.mono HB1.out.size)) ?_).mono ?_; exact hown.at_ hL1 hD1; rintro er w3 ⟨A3, d3, rfl, ho3, hb3⟩; have hB3 := hB2.trans (hb3.mono hB2.size); have hk1 := fun o => hB3.cell (p := ⟨w.heap.size, o, none⟩) hg0))
  clear hk1 f0 f1 f2 f3 f4 f5 f6 f7 f8 f9 f10
  have HB3 := Lib.hid (HB1.out.trans (hB3.mono HB1.out.size))
  have HO3 := Lib.hid (own_lower ho3 (Nat.le_trans HB1.out.size hB2.size))
  have HP := Lib.hid hp
  clear hB3 ho3 hb3 hb2 hB2 hp
  go_wp2_with fail
  go_ret
  refine ⟨A3, d3, ?_, ?_, HB3.out⟩
  · rw [HV.out, ← HP.out]; rfl
  · rw [HV.out, ← HP.out]; exact HO3.out

theorem stateS_rng (c : Cfg) : 0 ≤ stateS c ∧ stateS c ≤ 1000 := by
  unfold stateS
  split
  · rename_i h
    have hb := chk_cap h
    have hp := prod_b c.chans (1 + c.cap) 8 17 hb.2.2.2.2.1 hb.2.2.2.2.2 (by omega) (by omega)
    split <;> omega
  · omega

set_option maxHeartbeats 8000000 in
set_option maxRecDepth 100000 in
theorem oDone_any (c : Cfg) (A : Option Addr) (c0 : Nat) (L : List Int) (t : Int) (w : World) (hc : CfgIn w c) (hR : Rd w A (words L)) (hL : L.length ≤ 1048576) (h0 : 0 ≤ t) (ht : t ≤ 4096) :
    Calls Tryz.prog 103 #[cfgV c, .slice A L.length c0, .int .i64 t] w fun e w' => e = .returned (.int .u64 (doneO c L t)) ∧ Below w.heap.size w w' := by
  have hs := stateS_rng c
  have HV : RowKit.Hid (doneO c L t = if t < 0 ∨ c.threads ≤ t ∨ chkB c = false ∨ (L.length : Int) ≤ stateS c + t then 0 else L.getD (stateS c + t).toNat 0) := Lib.hid rfl
  have HST := Lib.hid (fun W (hb : Below w.heap.size w W) => State_any c W (hc.below hb))
  have HCY := Lib.hid (fun W (hb : Below w.heap.size w W) (hk : chkB c = true) => Check_ok c W (hc.below hb) hk)
  have HCN := Lib.hid (fun W (hb : Below w.heap.size w W) (hk : chkB c = false) => Check_no c W (hc.below hb) hk)
  have HBX := Lib.hid (BoxC.new w c)
  have HB := Lib.hid ((Below.refl w.heap.size w).alloc (Nat.le_refl _) (.cells #[.int .i64 c.kind, .int .i64 c.threads, .int .i64 c.chans, .int .i64 c.cap, .int .i64 c.nodes, .int .i64 c.retire, .int .i64 c.patience, .int .i64 c.tags, .int .i64 c.seqs, .int .i64 c.gens, .slice c.sa c.start.length c.sc] 24))
  have HR := Lib.hid (fun W (hb : Below w.heap.size w W) => hR.below hb)
  have hn0 : ¬ t < 0 := by omega
  clear hc hR
  generalize hG : doneO c L t = G at *
  clear hG
  generalize stateS c = s at *
  by_cases h1 : t < c.threads
  · cases hk : chkB c
    · have HVV : RowKit.Hid (G = 0) := Lib.hid (by rw [HV.out, if_pos (.inr (.inr (.inl hk)))])
      have HCK := Lib.hid (fun W hb => HCN.out W hb hk)
      clear hk HV HCY HCN
      unfold cfgV at HCK HST ⊢
      go_enter Tryz.func103, Tryz.ntmps103
      go_wp2_with (first
      | (refine (HST.out _ HB.out).mono ?_; rintro er w1 ⟨rfl, hb1⟩; have HB1 := Lib.hid (HB.out.trans (hb1.mono HB.out.size)); have HC1 := Lib.hid (HBX.out.below hb1); clear hb1; obtain ⟨f0, f1, f2, f3, f4, f5, f6, f7, f8, f9, f10⟩ := HC1.out.all)
      | (refine (HCK.out _ HB1.out).mono ?_; rintro er w2 ⟨rfl, hb2⟩; have HB2 := Lib.hid (HB1.out.trans (hb2.mono HB1.out.size)); clear hb2))
      go_ret
      exact ⟨by rw [HVV.out]; rfl, HB2.out⟩
    · have HCK := Lib.hid (fun W hb => HCY.out W hb hk)
      by_cases h2 : s + t < (L.length : Int)
      · have HVV : RowKit.Hid (G = L.getD (s + t).toNat 0) := Lib.hid (by rw [HV.out, if_neg (by rintro (g | g | g | g) <;> first | omega | (rw [hk] at g; cases g))])
        clear hk HV HCY HCN
        obtain ⟨j, hj⟩ : ∃ j : Nat, s + t = j := ⟨(s + t).toNat, by omega⟩
        have hjl : j < L.length := by omega
        have hwr : IntKind.i64.wrap (s + t) = (j : Int) := by rw [hj]; exact IntWalk.i64_in _ (by omega)
        rw [hj, Int.toNat_natCast] at HVV
        have q0 : (0 : Int) ≤ (j : Int) := by omega
        have q1 : (j : Int) < (L.length : Int) := by omega
        have q2 : ¬ (L.length : Int) ≤ (j : Int) := by omega
        obtain ⟨b, o, rfl, hbl, hcl⟩ := (HR.out w (Below.refl _ _)).at_ (by rw [words_length]; omega)
        have HCL := Lib.hid (hcl j _ (words_at hjl))
        clear hcl hj h2 hjl
        generalize L.length = n at *
        unfold cfgV at HCK HST ⊢
        go_enter Tryz.func103, Tryz.ntmps103
        go_wp2_with (first
          | (refine (HST.out _ HB.out).mono ?_; rintro er w1 ⟨rfl, hb1⟩; have HB1 := Lib.hid (HB.out.trans (hb1.mono HB.out.size)); have HC1 := Lib.hid (HBX.out.below hb1); clear hb1; obtain ⟨f0, f1, f2, f3, f4, f5, f6, f7, f8, f9, f10⟩ := HC1.out.all)
          | (refine (HCK.out _ HB1.out).mono ?_; rintro er w2 ⟨rfl, hb2⟩; have HB2 := Lib.hid (HB1.out.trans (hb2.mono HB1.out.size)); clear hb2; have x0 := (HB2.out.cell (p := ⟨b, o + j, none⟩) hbl).trans HCL.out))
        go_ret
        exact ⟨by rw [HVV.out]; rfl, HB2.out⟩
      · have HVV : RowKit.Hid (G = 0) := Lib.hid (by rw [HV.out, if_pos (.inr (.inr (.inr (by omega))))])
        clear hk HV HCY HCN
        have hwr : IntKind.i64.wrap (s + t) = s + t := IntWalk.i64_in _ (by omega)
        have h3 : (L.length : Int) ≤ s + t := by omega
        clear h2
        generalize L.length = n at *
        unfold cfgV at HCK HST ⊢
        go_enter Tryz.func103, Tryz.ntmps103
        go_wp2_with (first
      | (refine (HST.out _ HB.out).mono ?_; rintro er w1 ⟨rfl, hb1⟩; have HB1 := Lib.hid (HB.out.trans (hb1.mono HB.out.size)); have HC1 := Lib.hid (HBX.out.below hb1); clear hb1; obtain ⟨f0, f1, f2, f3, f4, f5, f6, f7, f8, f9, f10⟩ := HC1.out.all)
      | (refine (HCK.out _ HB1.out).mono ?_; rintro er w2 ⟨rfl, hb2⟩; have HB2 := Lib.hid (HB1.out.trans (hb2.mono HB1.out.size)); clear hb2))
        go_ret
        exact ⟨by rw [HVV.out]; rfl, HB2.out⟩
  · have HVV : RowKit.Hid (G = 0) := Lib.hid (by rw [HV.out, if_pos (.inr (.inl (by omega)))])
    have h4 : c.threads ≤ t := by omega
    clear HV HCY HCN h1
    have hwr : IntKind.i64.wrap (s + t) = s + t := IntWalk.i64_in _ (by omega)
    unfold cfgV at HST ⊢
    go_enter Tryz.func103, Tryz.ntmps103
    go_wp2_with (refine (HST.out _ HB.out).mono ?_; rintro er w1 ⟨rfl, hb1⟩; have HB1 := Lib.hid (HB.out.trans (hb1.mono HB.out.size)); have HC1 := Lib.hid (HBX.out.below hb1); clear hb1; obtain ⟨f0, f1, f2, f3, f4, f5, f6, f7, f8, f9, f10⟩ := HC1.out.all)
    go_ret
    exact ⟨by rw [HVV.out]; rfl, HB1.out⟩

end Go.Proofs.YtieglgahfeecbaaGreatDoor

namespace Go.Proofs.YtieglgahfeecbaaGreatDoor
open Go.RowKit Go.Sort
attribute [local go_sem ↓] Go.wp_at_zero Go.wp_at_succ

/-- Handed back: words, if there are such. -/
def RetWordsO (o : Option (List Int)) (w : World) (e : Ending) (w' : World) : Prop :=
  ∃ A c0, e = .returned (.tuple #[.slice A (o.getD []).length c0, .bool o.isSome]) ∧ w'.ownsRow w.heap.size 95 1 (.slice A (o.getD []).length c0) (o.getD []).length (words (o.getD [])) ∧ Below w.heap.size w w'

/-- What a queue's words come to. -/
def cellsO (c : Cfg) (L : List Int) (t seq : Int) (q : ReqP) : Option (List Int) := (readC c L).map fun x => putC c (applyC (decide (c.kind = 2)) x t seq q)

set_option maxHeartbeats 16000000 in
set_option maxRecDepth 100000 in
theorem oCells_any (c : Cfg) (A : Option Addr) (c0 : Nat) (L : List Int) (t seq : Int) (q : Reqr) (l : List Cse) (w : World) (hk1 : c.kind = 1) (hc : CfgIn w c) (hR : Rd w A (words L)) (hL : L.length ≤ c0) (hbig : ∀ x ∈ L, 0 ≤ x ∧ x < 18446744073709551616) :
    Calls Tryz.prog 105 #[cfgV c, .slice A L.length c0, .int .i64 t, .int .i64 seq, reqV q] w (RetWordsO (cellsO c L t seq (q.p l)) w) := by
  obtain ⟨b0, b1, hb0⟩ := box2 w 24 40 (cfgCells c) q.cells
  have HBC := Lib.hid (cfg_blk b0)
  have HBQ := Lib.hid b1
  have HBX := Lib.hid hb0
  clear b0 b1 hb0
  unfold cfgCells Reqr.cells at HBC HBQ HBX
  have HRD := Lib.hid (fun W (hb : Below w.heap.size w W) => kReadC_any c A c0 L W (hc.below hb) (hR.below hb) hL hbig)
  have HAP := Lib.hid (fun W (x : Clr) (hx : ClrAt W x) (h1 : -1 ≤ x.cap) => fApply_any x t seq q l W hx h1)
  have HPC := Lib.hid (fun W x (hb : Below w.heap.size w W) (hx : ClrAt W x) => kPutC_any c x W (hc.below hb) hx)
  have e2 : (c.kind == 2) = false := by simp [hk1]
  have hd2 : decide (c.kind = 2) = false := by simp [hk1]
  cases hr : readC c L with
  | none =>
    have HV : RowKit.Hid (cellsO c L t seq (q.p l) = .none) := Lib.hid (by simp [cellsO, hr])
    rw [hr] at HRD
    generalize cellsO c L t seq (q.p l) = R at *
    clear hc hR hL hbig hk1 e2 hd2 hr HAP HPC
    generalize L.length = n at *
    unfold cfgV at HRD ⊢
    go_enter Tryz.func105, Tryz.ntmps105
    go_wp2_with (refine (HRD.out _ HBX.out).mono ?_
                 rintro er w1 ⟨⟨cap1, LA1, lc1, li1, DA1, dc1, dn1⟩, rfl, _, hown, hb1⟩
                 have HB1 := Lib.hid (HBX.out.trans (hb1.mono HBX.out.size))
                 clear hb1 hown
                 unfold clrV
                 simp only [Option.isSome_none])
    go_ret2
    refine ⟨none, 0, by rw [HV.out]; rfl, by rw [HV.out]; exact own_nil _ _ _ _, HB1.out.alloc HB1.out.size _⟩
  | some p =>
    have HV : RowKit.Hid (cellsO c L t seq (q.p l) = some (putC c (applyC false p t seq (q.p l)))) := Lib.hid (by simp [cellsO, hr, hd2])
    obtain ⟨hck, hk3, hfit, _, _⟩ := readC_fit hr
    have hcap := chk_cap hck
    have hp1 : p.list.length ≤ 16 := by have := hfit.few; omega
    have hp2 : p.done.length ≤ 64 := by have := hfit.ndn; omega
    have hp3 : -1 ≤ p.cap := by have := hfit.cap; omega
    have HF : RowKit.Hid (p.list.length ≤ 16 ∧ p.done.length ≤ 64 ∧ -1 ≤ p.cap) := Lib.hid ⟨hp1, hp2, hp3⟩
    have HY : RowKit.Hid (∀ y : Clr, y.p = applyC false p t seq (q.p l) → y.list.length ≤ 1048576 ∧ y.done.length ≤ 4096) := Lib.hid (fun y hy => by
      have h1 : y.list = (applyC false p t seq (q.p l)).list := congrArg CellsP.list hy
      have h2 : y.done = (applyC false p t seq (q.p l)).done := congrArg CellsP.done hy
      rw [h1, h2]
      constructor
      · show (stpC _ _ _ _).1.length ≤ _
        unfold stpC
        repeat' split
        all_goals (first | omega | (simp; omega))
      · show (setR _ _ _).length ≤ _
        unfold setR
        split
        · simp; omega
        · omega)
    rw [hr] at HRD
    generalize cellsO c L t seq (q.p l) = R at *
    clear hc hR hL hbig hk1 hd2 hr hck hk3 hfit hcap hp1 hp2 hp3
    generalize L.length = n at *
    unfold cfgV at HRD HPC ⊢
    unfold reqV at HAP ⊢
    go_enter Tryz.func105, Tryz.ntmps105
    go_wp2_with (refine (HRD.out _ HBX.out).mono ?_
                 rintro er w1 ⟨⟨cap1, LA1, lc1, li1, DA1, dc1, dn1⟩, rfl, hp, hown, hb1⟩
                 have HP := Lib.hid (hp p rfl)
                 have HB1 := Lib.hid (HBX.out.trans (hb1.mono HBX.out.size))
                 have HC1 := Lib.hid (HBC.out.below hb1)
                 have HQ1 := Lib.hid (HBQ.out.below hb1 HBQ.out.lt)
                 have HO1 := Lib.hid hown
                 clear hb1 hown hp
                 obtain ⟨f0, f1, f2, f3, f4, f5, f6, f7, f8, f9, f10⟩ := HC1.out.all
                 have hlt0 : w.heap.size < w1.heap.size := HC1.out.1
                 have hlt1 : w.heap.size + 1 < w1.heap.size := HQ1.out.lt
                 unfold clrV
                 simp only [Option.isSome_some])
    have HCX := Lib.hid (HC1.out.below ((Below.refl w1.heap.size w1).alloc (Nat.le_refl _) (.cells #[.int .i64 cap1, .slice LA1 li1.length lc1, .slice DA1 dn1.length dc1] 91)))
    have HQX := Lib.hid (HQ1.out.alloc (.cells #[.int .i64 cap1, .slice LA1 li1.length lc1, .slice DA1 dn1.length dc1] 91))
    have HXX := Lib.hid (Blk.new w1 91 [.int .i64 cap1, .slice LA1 li1.length lc1, .slice DA1 dn1.length dc1])
    have HOX := Lib.hid (HO1.out.below ((Below.refl w1.heap.size w1).alloc (Nat.le_refl _) (.cells #[.int .i64 cap1, .slice LA1 li1.length lc1, .slice DA1 dn1.length dc1] 91)))
    have HBW := Lib.hid (HB1.out.alloc HB1.out.size (.cells #[.int .i64 cap1, .slice LA1 li1.length lc1, .slice DA1 dn1.length dc1] 91))
    clear f0 f1 f2 f3 f4 f5 f6 f7 f8 f9 f10
    have hlt2 : w1.heap.size < (w1.alloc (.cells #[.int .i64 cap1, .slice LA1 li1.length lc1, .slice DA1 dn1.length dc1] 91)).heap.size := lt_alloc _ _
    have hlt3 : w.heap.size < (w1.alloc (.cells #[.int .i64 cap1, .slice LA1 li1.length lc1, .slice DA1 dn1.length dc1] 91)).heap.size := HCX.out.1
    have hlt4 : w.heap.size + 1 < (w1.alloc (.cells #[.int .i64 cap1, .slice LA1 li1.length lc1, .slice DA1 dn1.length dc1] 91)).heap.size := HQX.out.lt
    generalize w1.alloc (.cells #[.int .i64 cap1, .slice LA1 li1.length lc1, .slice DA1 dn1.length dc1] 91) = V at *
    obtain ⟨f0, f1, f2, f3, f4, f5, f6, f7, f8, f9, f10⟩ := HCX.out.all
    have g0 := HQX.out.cell (i := 0) rfl
    have g1 := HQX.out.cell (i := 1) rfl
    have g2 := HQX.out.cell (i := 2) rfl
    have g3 := HQX.out.cell (i := 3) rfl
    have g4 := HQX.out.cell (i := 4) rfl
    have y0 := HXX.out.cell (i := 0) rfl
    have y1 := HXX.out.cell (i := 1) rfl
    have y2 := HXX.out.cell (i := 2) rfl
    have HPP : RowKit.Hid (li1.length ≤ 16 ∧ dn1.length ≤ 64 ∧ -1 ≤ cap1) := Lib.hid (by
      have h := HF.out
      rw [← HP.out] at h
      exact h)
    have HAT := Lib.hid (HOX.out.at_ (Nat.le_trans HPP.out.1 (by decide)) (Nat.le_trans HPP.out.2.1 (by decide)))
    have HATd := Lib.hid (ClrAt.below HAT.out (Below.drewN' (Below.refl V.heap.size V) 1))
    have HAPX := Lib.hid (HAP.out _ _ HATd.out HPP.out.2.2)
    unfold clrV at HAPX
    simp only at HAPX
    go_region_held3 (fun w' => w'.cell? ⟨w.heap.size, 0, none⟩ = some (.int .i64 c.kind) ∧ w'.cell? ⟨w.heap.size, 1, none⟩ = some (.int .i64 c.threads) ∧ w'.cell? ⟨w.heap.size, 2, none⟩ = some (.int .i64 c.chans) ∧ w'.cell? ⟨w.heap.size, 3, none⟩ = some (.int .i64 c.cap) ∧ w'.cell? ⟨w.heap.size, 4, none⟩ = some (.int .i64 c.nodes) ∧ w'.cell? ⟨w.heap.size, 5, none⟩ = some (.int .i64 c.retire) ∧ w'.cell? ⟨w.heap.size, 6, none⟩ = some (.int .i64 c.patience) ∧ w'.cell? ⟨w.heap.size, 7, none⟩ = some (.int .i64 c.tags) ∧ w'.cell? ⟨w.heap.size, 8, none⟩ = some (.int .i64 c.seqs) ∧ w'.cell? ⟨w.heap.size, 9, none⟩ = some (.int .i64 c.gens) ∧ w'.cell? ⟨w.heap.size, 10, none⟩ = some (.slice c.sa c.start.length c.sc) ∧ w'.cell? ⟨w.heap.size + 1, 0, none⟩ = some (.int .i64 q.kind) ∧ w'.cell? ⟨w.heap.size + 1, 1, none⟩ = some (.int .i64 q.arg) ∧ w'.cell? ⟨w.heap.size + 1, 2, none⟩ = some (.int .i64 q.value) ∧ w'.cell? ⟨w.heap.size + 1, 3, none⟩ = some (.bool q.dflt) ∧ w'.cell? ⟨w.heap.size + 1, 4, none⟩ = some (.slice q.A q.n q.c) ∧ w'.cell? ⟨w1.heap.size, 0, none⟩ = some (.int .i64 cap1) ∧ w'.cell? ⟨w1.heap.size, 1, none⟩ = some (.slice LA1 li1.length lc1) ∧ w'.cell? ⟨w1.heap.size, 2, none⟩ = some (.slice DA1 dn1.length dc1)) (first | go_keep | (simp only [hk1, hk2, hk3]; go_keep)) (first
      | (go_at_call 132; refine HAPX.out.mono ?_; rintro er w2 ⟨x, rfl, hp, hown, hb2⟩; have hY := HY.out x (by rw [hp, HP.out]); have hB2 : Below V.heap.size V w2 := ⟨hb2.os, hb2.tape, hb2.output, hb2.size, hb2.block⟩; have hk1 := fun o => hB2.cell (p := ⟨w.heap.size, o, none⟩) hlt3; have hk2 := fun o => hB2.cell (p := ⟨w.heap.size + 1, o, none⟩) hlt4; have hk3 := fun o => hB2.cell (p := ⟨w1.heap.size, o, none⟩) hlt2)
      | (go_at_call 39; refine (HPC.out _ _ (HBW.out.trans (hB2.mono HBW.out.size)) (hown.at_ hY.1 hY.2)).mono ?_; rintro er w3 ⟨A3, d3, rfl, ho3, hb3⟩; have hB3 := hB2.trans (hb3.mono hB2.size); have hk1 := fun o => hB3.cell (p := ⟨w.heap.size, o, none⟩) hlt3; have hk2 := fun o => hB3.cell (p := ⟨w.heap.size + 1, o, none⟩) hlt4; have hk3 := fun o => hB3.cell (p := ⟨w1.heap.size, o, none⟩) hlt2))
    have HB3 := Lib.hid (HBW.out.trans (hB3.mono HBW.out.size))
    have HO3 := Lib.hid (own_lower ho3 (Nat.le_trans HBW.out.size hB2.size))
    simp only [hp] at HO3
    clear hk1 hk2 hk3 f0 f1 f2 f3 f4 f5 f6 f7 f8 f9 f10 g0 g1 g2 g3 g4 y0 y1 y2 hB3 ho3 hb3 hb2 hB2 hp hY
    go_wp2_with fail
    go_ret2
    refine ⟨A3, d3, ?_, ?_, HB3.out⟩
    · rw [HV.out, ← HP.out]; rfl
    · rw [HV.out, ← HP.out]; exact HO3.out

end Go.Proofs.YtieglgahfeecbaaGreatDoor

namespace Go.Proofs.YtieglgahfeecbaaGreatDoor
open Go.RowKit Go.Sort
attribute [local go_sem ↓] Go.wp_at_zero Go.wp_at_succ

set_option maxHeartbeats 16000000 in
set_option maxRecDepth 100000 in
theorem oApply_any (c : Cfg) (A : Option Addr) (c0 : Nat) (L : List Int) (t seq : Int) (q : Reqr) (l : List Cse) (w : World) (hk1 : c.kind = 1) (hc : CfgIn w c) (hR : Rd w A (words L)) (hL : L.length ≤ c0) (hc0 : L.length ≤ 1048576) (hbig : ∀ x ∈ L, 0 ≤ x ∧ x < 18446744073709551616) (hq : ReqAt w q l) :
    Calls Tryz.prog 72 #[cfgV c, .slice A L.length c0, .int .i64 t, .int .i64 seq, reqV q] w (RetWords (applyO c L t seq (q.p l)) w) := by
  obtain ⟨b0, b1, hb0⟩ := box2 w 24 40 (cfgCells c) q.cells
  have HBC := Lib.hid (cfg_blk b0)
  have HBQ := Lib.hid b1
  have HBX := Lib.hid hb0
  clear b0 b1 hb0
  unfold cfgCells Reqr.cells at HBC HBQ HBX
  have HFI := Lib.hid (fun W (hb : Below w.heap.size w W) => pFits_any q l W (hq.below hb))
  have HCE := Lib.hid (fun W (hb : Below w.heap.size w W) => oCells_any c A c0 L t seq q l W hk1 (hc.below hb) (hR.below hb) hL hbig)
  have HCL := Lib.hid (fun W (hb : Below w.heap.size w W) => CloneW_any A L.length c0 (words L) W (by omega) (by rw [words_length]; omega) (words_one _) (hR.below hb))
  have HV : RowKit.Hid (applyO c L t seq (q.p l) = if t < 0 ∨ c.threads ≤ t ∨ seq < 0 ∨ 1048575 < seq ∨ fitsQ (q.p l) = false then L else (cellsO c L t seq (q.p l)).getD L) := Lib.hid (by
    unfold applyO
    split
    · rfl
    · rw [if_neg (by omega)]
      unfold cellsO
      cases readC c L <;> rfl)
  have e3 : (c.kind == 3) = false := by simp [hk1]
  have e3' : (c.kind != 3) = true := by simp [hk1]
  generalize applyO c L t seq (q.p l) = R at *
  generalize cellsO c L t seq (q.p l) = O at *
  generalize fitsQ (q.p l) = F at *
  clear hc hR hL hbig hk1 hq hc0
  generalize hn : L.length = n at *
  have HN := Lib.hid hn
  clear hn
  have HBV := Lib.hid HBC.out.all
  unfold cfgV at HCE ⊢
  unfold reqV at HFI HCE ⊢
  by_cases h1 : t < 0
  · have HVV : RowKit.Hid (R = L) := Lib.hid (by rw [HV.out, if_pos (by exact .inl h1)])
    skip
    clear HV
    go_enter Tryz.func72, Tryz.ntmps72
    go_wp2_with (first
      | (refine (HCL.out _ HBX.out).mono ?_; rintro er w2 ⟨A2, d2, rfl, ho2, hb2⟩; have HO2 := Lib.hid (own_lower ho2 HBX.out.size); have HB2 := Lib.hid (HBX.out.trans (hb2.mono HBX.out.size)); clear ho2 hb2))
    go_ret
    exact ⟨A2, d2, by rw [HVV.out, HN.out]; rfl, by rw [HVV.out, HN.out]; exact HO2.out, HB2.out⟩
  by_cases h2 : c.threads ≤ t
  · have HVV : RowKit.Hid (R = L) := Lib.hid (by rw [HV.out, if_pos (by exact .inr (.inl h2))])
    skip
    clear HV
    go_enter Tryz.func72, Tryz.ntmps72
    go_wp2_with (first
      | (refine (HCL.out _ HBX.out).mono ?_; rintro er w2 ⟨A2, d2, rfl, ho2, hb2⟩; have HO2 := Lib.hid (own_lower ho2 HBX.out.size); have HB2 := Lib.hid (HBX.out.trans (hb2.mono HBX.out.size)); clear ho2 hb2))
    go_ret
    exact ⟨A2, d2, by rw [HVV.out, HN.out]; rfl, by rw [HVV.out, HN.out]; exact HO2.out, HB2.out⟩
  by_cases h3 : seq < 0
  · have HVV : RowKit.Hid (R = L) := Lib.hid (by rw [HV.out, if_pos (by exact .inr (.inr (.inl h3)))])
    skip
    clear HV
    go_enter Tryz.func72, Tryz.ntmps72
    go_wp2_with (first
      | (refine (HCL.out _ HBX.out).mono ?_; rintro er w2 ⟨A2, d2, rfl, ho2, hb2⟩; have HO2 := Lib.hid (own_lower ho2 HBX.out.size); have HB2 := Lib.hid (HBX.out.trans (hb2.mono HBX.out.size)); clear ho2 hb2))
    go_ret
    exact ⟨A2, d2, by rw [HVV.out, HN.out]; rfl, by rw [HVV.out, HN.out]; exact HO2.out, HB2.out⟩
  by_cases h4 : 1048575 < seq
  · have HVV : RowKit.Hid (R = L) := Lib.hid (by rw [HV.out, if_pos (by exact .inr (.inr (.inr (.inl h4))))])
    skip
    clear HV
    go_enter Tryz.func72, Tryz.ntmps72
    go_wp2_with (first
      | (refine (HCL.out _ HBX.out).mono ?_; rintro er w2 ⟨A2, d2, rfl, ho2, hb2⟩; have HO2 := Lib.hid (own_lower ho2 HBX.out.size); have HB2 := Lib.hid (HBX.out.trans (hb2.mono HBX.out.size)); clear ho2 hb2))
    go_ret
    exact ⟨A2, d2, by rw [HVV.out, HN.out]; rfl, by rw [HVV.out, HN.out]; exact HO2.out, HB2.out⟩
  cases hf : F
  · have HVV : RowKit.Hid (R = L) := Lib.hid (by rw [HV.out, if_pos (by exact .inr (.inr (.inr (.inr hf))))])
    rw [hf] at HFI
    clear hf
    clear HV
    go_enter Tryz.func72, Tryz.ntmps72
    go_wp2_with (first
      | (refine (HFI.out _ HBX.out).mono ?_; rintro er w1 ⟨rfl, hb1⟩; have HB1 := Lib.hid (HBX.out.trans (hb1.mono HBX.out.size)); clear hb1)
      | (refine (HCL.out _ HB1.out).mono ?_; rintro er w2 ⟨A2, d2, rfl, ho2, hb2⟩; have HO2 := Lib.hid (own_lower ho2 HB1.out.size); have HB2 := Lib.hid (HB1.out.trans (hb2.mono HB1.out.size)); clear ho2 hb2))
    go_ret
    exact ⟨A2, d2, by rw [HVV.out, HN.out]; rfl, by rw [HVV.out, HN.out]; exact HO2.out, HB2.out⟩
  · have HVV : RowKit.Hid (R = O.getD L) := Lib.hid (by rw [HV.out, if_neg (by rintro (g | g | g | g | g) <;> first | omega | (rw [hf] at g; cases g))])
    rw [hf] at HFI
    clear HV hf
    cases O with
    | none =>
      go_enter Tryz.func72, Tryz.ntmps72
      go_wp2_with (first
        | (refine (HFI.out _ HBX.out).mono ?_; rintro er w1 ⟨rfl, hb1⟩; have HB1 := Lib.hid (HBX.out.trans (hb1.mono HBX.out.size)); have HC1 := Lib.hid (HBC.out.below hb1); have HQ1 := Lib.hid (HBQ.out.below hb1 HBQ.out.lt); clear hb1; obtain ⟨f0, f1, f2, f3, f4, f5, f6, f7, f8, f9, f10⟩ := HC1.out.all; obtain ⟨g0, g1, g2, g3, g4⟩ := reqBox (q := q) HQ1.out)
        | (refine (HCE.out _ HB1.out).mono ?_; rintro er w2 ⟨A2, d2, rfl, ho2, hb2⟩; have HB2 := Lib.hid (HB1.out.trans (hb2.mono HB1.out.size)); clear ho2 hb2; simp only [Option.isSome_none, Option.getD_none])
        | (refine (HCL.out _ HB2.out).mono ?_; rintro er w3 ⟨A3, d3, rfl, ho3, hb3⟩; have HO3 := Lib.hid (own_lower ho3 HB2.out.size); have HB3 := Lib.hid (HB2.out.trans (hb3.mono HB2.out.size)); clear ho3 hb3))
      go_ret
      exact ⟨A3, d3, by rw [HVV.out]; simp only [Option.getD_none]; rw [HN.out]; rfl, by rw [HVV.out]; simp only [Option.getD_none]; rw [HN.out]; exact HO3.out, HB3.out⟩
    | some o =>
      go_enter Tryz.func72, Tryz.ntmps72
      go_wp2_with (first
        | (refine (HFI.out _ HBX.out).mono ?_; rintro er w1 ⟨rfl, hb1⟩; have HB1 := Lib.hid (HBX.out.trans (hb1.mono HBX.out.size)); have HC1 := Lib.hid (HBC.out.below hb1); have HQ1 := Lib.hid (HBQ.out.below hb1 HBQ.out.lt); clear hb1; obtain ⟨f0, f1, f2, f3, f4, f5, f6, f7, f8, f9, f10⟩ := HC1.out.all; obtain ⟨g0, g1, g2, g3, g4⟩ := reqBox (q := q) HQ1.out)
        | (refine (HCE.out _ HB1.out).mono ?_; rintro er w2 ⟨A2, d2, rfl, ho2, hb2⟩; have HO2 := Lib.hid (own_lower ho2 HB1.out.size); have HB2 := Lib.hid (HB1.out.trans (hb2.mono HB1.out.size)); clear ho2 hb2; simp only [Option.isSome_some, Option.getD_some]))
      go_ret
      exact ⟨A2, d2, by rw [HVV.out]; rfl, by rw [HVV.out]; exact HO2.out, HB2.out⟩

theorem objOk_fifo (c : Cfg) (hk : c.kind = 1) : ObjOk c where
  start := fun w hc => by
    cases h : chkB c
    · exact oStart_no c w hc h
    · exact oStart_cells c w hc h (by omega)
  apply := fun A c0 L t seq q l w hc hR hL hc0 hbig hq _ => oApply_any c A c0 L t seq q l w hk hc hR hL hc0 hbig hq
  done := fun A c0 L t w hc hR hL h0 ht => oDone_any c A c0 L t w hc hR hL h0 ht
  big := fun L t seq q h => applyO_big (by omega) L t seq q h
  big0 := startO_big (by omega)

end Go.Proofs.YtieglgahfeecbaaGreatDoor
