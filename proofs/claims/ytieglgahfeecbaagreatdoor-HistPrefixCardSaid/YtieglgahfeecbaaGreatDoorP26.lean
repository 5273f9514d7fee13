/- object: of a hall: walked. (printed by gen_kh11.py) -/
import Derived.Test.YtieglgahfeecbaaGreatDoorP25
set_option maxHeartbeats 64000000
set_option maxRecDepth 100000
namespace Go.Proofs.YtieglgahfeecbaaGreatDoor
open Go.RowKit Go.Sort
attribute [local go_sem ↓] Go.wp_at_zero Go.wp_at_succ
theorem chans_few {cap k : Nat} {M : List Int} {l : List Chn} (h : l.map Chn.p = chansR cap k M) : ∀ x ∈ l, x.buf.length <= cap := fun x hx => by
 have h1 : x.p ∈ chansR cap k M := h ▸ List.mem_map_of_mem hx
 unfold chansR at h1
 obtain ⟨i, _, h2⟩ := List.mem_map.1 h1
 have h3 := chanR_few cap (M.drop (i * (1 + cap)))
 rw [h2] at h3
 exact h3
theorem waits_few {k : Nat} {M : List Int} {l : List Wtr} (h : l.map Wtr.p = waitsR k M) : ∀ x ∈ l, x.cs.length <= 3 := fun x hx => by
 have h1 : x.p ∈ waitsR k M := h ▸ List.mem_map_of_mem hx
 unfold waitsR at h1
 obtain ⟨i, _, h2⟩ := List.mem_map.1 h1
 have h3 := waitR_few (M.drop (i * 4))
 rw [h2] at h3
 exact h3
theorem own_max {w : World} {base s n : Nat} {e : TypeId} {v : Value} {xs : List Value} (h : w.ownsRow base e s v n xs) : n <= maxLen := by
 rcases h.2 with ⟨_, rfl⟩ | ⟨g, cap, cur, hv, hb, hh, hnc, hm, _⟩
 . exact Nat.zero_le _
 . omega
theorem ret_hal {fn : Func} {p q : Tmp} {ty : TypeId} (h : fn.results = #[.cell p ty, .tmp q]) {tmps : Array Value} {w : World} {g : Nat} {v a : Value}
  (hp : tmps.getD p undef = .pointer (some ⟨g, 0, none⟩)) (hl : (loadVar ty ⟨g, 0, none⟩).run Tryz.prog w = .ok v w) (hq : tmps.getD q undef = a) :
  (results fn tmps).run Tryz.prog w = .ok (.tuple #[v, a]) w := ret_cellB h hp hl hq
theorem cfg_blkN {w : World} {g : Nat} {v0 v1 v2 v3 v4 v5 v6 v7 v8 v9 v10 : Value} (h : Blk w g 24 [v0, v1, v2, v3, v4, v5, v6, v7, v8, v9, v10]) :
  w.cell? ⟨g, 0, none⟩ = some v0 /\ w.cell? ⟨g, 1, none⟩ = some v1 /\ w.cell? ⟨g, 2, none⟩ = some v2 /\ w.cell? ⟨g, 3, none⟩ = some v3 /\ w.cell? ⟨g, 4, none⟩ = some v4 /\ w.cell? ⟨g, 5, none⟩ = some v5 /\ w.cell? ⟨g, 6, none⟩ = some v6 /\ w.cell? ⟨g, 7, none⟩ = some v7 /\ w.cell? ⟨g, 8, none⟩ = some v8 /\ w.cell? ⟨g, 9, none⟩ = some v9 /\ w.cell? ⟨g, 10, none⟩ = some v10 :=
 ⟨h.cell rfl, h.cell rfl, h.cell rfl, h.cell rfl, h.cell rfl, h.cell rfl, h.cell rfl, h.cell rfl, h.cell rfl, h.cell rfl, h.cell rfl⟩
theorem kReadH_any (c : Cfg) (A : Option Addr) (c0 : Nat) (L : List Int) (w : World) (hc : CfgIn w c) (hR : Rd w A (words L)) (hL : L.length <= c0) (hbig : ∀ x ∈ L, 0 <= x /\ x < 18446744073709551616) :
  Calls Tryz.prog 106 #[cfgV c, .slice A L.length c0] w (RetHalO (readH c L) w) := by
 obtain ⟨b0, b1, hb0⟩ := box2 w 24 87 (cfgCells c) [.int .i64 0, .slice none 0 0, .slice none 0 0, .slice none 0 0]
 have HB0 := Zd b1
 have HBC := Zd (cfg_blk b0)
 have HBK := Zd b0
 have HBX := Zd hb0
 clear b0 b1 hb0
 unfold cfgCells at HB0 HBC HBX HBK
 cases hk : chkB c
 . have HV := Zd (readH_no1 (L := L) hk)
   have HCK := Zd (fun W (hb : Below w.heap.size w W) => Check_no c W (hc.below hb) hk)
   generalize readH c L = R at *
   unfold cfgV at HCK ⊢
   clear hc hk hR hL hbig HBK
   go_enter Tryz.func106, Tryz.ntmps106
   go_wp2_with (go_at_call 20; refine (HCK.out _ HBX.out).mono ?_; rintro er w1 ⟨rfl, hb1⟩; have HB1 := Zd (btr HBX.out hb1); have HY1 := Zd (HB0.out.below hb1 HB0.out.lt); have HC1 := Zd (HBC.out.below hb1); clear hb1; obtain ⟨f0, f1, f2, f3, f4, f5, f6, f7, f8, f9, f10⟩ := HC1.out.all; have z0 := HY1.out.cell (i := 0) rfl; have z0f := HY1.out.frozen 0; have z1 := HY1.out.cell (i := 1) rfl; have z1f := HY1.out.frozen 1; have z2 := HY1.out.cell (i := 2) rfl; have z2f := HY1.out.frozen 2; have z3 := HY1.out.cell (i := 3) rfl; have z3f := HY1.out.frozen 3)
   refine bodyPost_ret (v := .tuple #[halV Hal.none, .bool false]) (ret_hal (g := w.heap.size + 1) rfl rfl (hal_load4 (put4 HY1.out)) rfl) rfl ?_
   rw [HV.out]
   exact ⟨Hal.none, rfl, fun p hp => (by cases hp), OwnHal.none _ _, below4 HB1.out (by omega)⟩
 have HCK := Zd (fun W (hb : Below w.heap.size w W) => Check_ok c W (hc.below hb) hk)
 have HSZ := Zd (fun W (hb : Below w.heap.size w W) => Size_any c W (hc.below hb))
 by_cases hk3 : c.kind = 3
 rotate_left
 . have HV := Zd (readH_no2 (L := L) hk3)
   have e3 : (c.kind != 3) = true := by simp [hk3]
   generalize readH c L = R at *
   unfold cfgV at HCK ⊢
   clear hc hk hk3 hR hL hbig HSZ HBK
   go_enter Tryz.func106, Tryz.ntmps106
   go_wp2_with (go_at_call 20; refine (HCK.out _ HBX.out).mono ?_; rintro er w1 ⟨rfl, hb1⟩; have HB1 := Zd (btr HBX.out hb1); have HY1 := Zd (HB0.out.below hb1 HB0.out.lt); have HC1 := Zd (HBC.out.below hb1); clear hb1; obtain ⟨f0, f1, f2, f3, f4, f5, f6, f7, f8, f9, f10⟩ := HC1.out.all; have z0 := HY1.out.cell (i := 0) rfl; have z0f := HY1.out.frozen 0; have z1 := HY1.out.cell (i := 1) rfl; have z1f := HY1.out.frozen 1; have z2 := HY1.out.cell (i := 2) rfl; have z2f := HY1.out.frozen 2; have z3 := HY1.out.cell (i := 3) rfl; have z3f := HY1.out.frozen 3)
   refine bodyPost_ret (v := .tuple #[halV Hal.none, .bool false]) (ret_hal (g := w.heap.size + 1) rfl rfl (hal_load4 (put4 HY1.out)) rfl) rfl ?_
   rw [HV.out]
   exact ⟨Hal.none, rfl, fun p hp => (by cases hp), OwnHal.none _ _, below4 HB1.out (by omega)⟩
 by_cases hsz : (L.length : Int) = sizeS c
 rotate_left
 . have HV := Zd (readH_no3 (L := L) hsz)
   have e3 : (c.kind != 3) = false := by simp [hk3]
   have e4 : ((L.length : Int) != sizeS c) = true := by simp [hsz]
   generalize readH c L = R at *
   generalize sizeS c = sz at *
   unfold cfgV at HCK HSZ ⊢
   clear hc hk hk3 hR hL hbig hsz HBK
   generalize L.length = n at *
   go_enter Tryz.func106, Tryz.ntmps106
   go_wp2_with (first
    | (go_at_call 20; refine (HCK.out _ HBX.out).mono ?_; rintro er w1 ⟨rfl, hb1⟩; have HB1 := Zd (btr HBX.out hb1); have HY1 := Zd (HB0.out.below hb1 HB0.out.lt); have HC1 := Zd (HBC.out.below hb1); clear hb1; obtain ⟨f0, f1, f2, f3, f4, f5, f6, f7, f8, f9, f10⟩ := HC1.out.all; have z0 := HY1.out.cell (i := 0) rfl; have z0f := HY1.out.frozen 0; have z1 := HY1.out.cell (i := 1) rfl; have z1f := HY1.out.frozen 1; have z2 := HY1.out.cell (i := 2) rfl; have z2f := HY1.out.frozen 2; have z3 := HY1.out.cell (i := 3) rfl; have z3f := HY1.out.frozen 3)
    | (go_at_call 133; refine (HSZ.out _ HB1.out).mono ?_; rintro er w2 ⟨rfl, hb2⟩; have HB2 := Zd (btr HB1.out hb2); have HY2 := Zd (HY1.out.below hb2 HY1.out.lt); have HC2 := Zd (HC1.out.below hb2); clear hb2 f0 f1 f2 f3 f4 f5 f6 f7 f8 f9 f10 z0 z0f z1 z1f z2 z2f z3 z3f; have z0 := HY2.out.cell (i := 0) rfl; have z0f := HY2.out.frozen 0; have z1 := HY2.out.cell (i := 1) rfl; have z1f := HY2.out.frozen 1; have z2 := HY2.out.cell (i := 2) rfl; have z2f := HY2.out.frozen 2; have z3 := HY2.out.cell (i := 3) rfl; have z3f := HY2.out.frozen 3))
   refine bodyPost_ret (v := .tuple #[halV Hal.none, .bool false]) (ret_hal (g := w.heap.size + 1) rfl rfl (hal_load4 (put4 HY2.out)) rfl) rfl ?_
   rw [HV.out]
   exact ⟨Hal.none, rfl, fun p hp => (by cases hp), OwnHal.none _ _, below4 HB2.out (by omega)⟩
 have hb := chk_cap hk
 have hcap8 : c.cap <= 8 := by
  simp [chkB, ownB, inB, hk3] at hk
  omega
 have e3 : (c.kind != 3) = false := by simp [hk3]
 have e4 : ((L.length : Int) != sizeS c) = false := by simp [hsz]
 have hsz' := hsz
 rw [sizeS_hall hk hk3] at hsz'
 obtain ⟨cn, hcn⟩ : ∃ n : Nat, c.cap = n := ⟨c.cap.toNat, by omega⟩
 obtain ⟨th, hth⟩ : ∃ n : Nat, c.threads = n := ⟨c.threads.toNat, by omega⟩
 obtain ⟨nch, hnch⟩ : ∃ n : Nat, c.chans = n := ⟨c.chans.toNat, by omega⟩
 have hcn8 : cn <= 8 := by omega
 have hth64 : th <= 64 := by omega
 have hnch8 : nch <= 8 := by omega
 have hsz2 : L.length = 1 + nch * (1 + cn) + th * 4 + th := by
  rw [hcn, hth, hnch] at hsz'
  have : ((1 + nch * (1 + cn) + th * 4 + th : Nat) : Int) = 1 + (nch : Int) * (1 + (cn : Int)) + (th : Int) * 4 + (th : Int) := by simp only [Int.natCast_add, Int.natCast_mul]; rfl
  omega
 have hnm : nch * (1 + cn) <= 72 := Nat.mul_le_mul (by omega : nch <= 8) (by omega : 1 + cn <= 9)
 obtain ⟨x0, M, rfl⟩ : ∃ x M, L = x :: M := by
  match L, hsz2 with
  | x :: M, _ => exact ⟨x, M, rfl⟩
  | [], h => simp at h; omega
 have hM : M.length = nch * (1 + cn) + th * 4 + th := by simp at hsz2; omega
 have h00 := hbig x0 (List.mem_cons_self ..)
 obtain ⟨u, rfl⟩ : ∃ u : Nat, x0 = u := ⟨x0.toNat, by omega⟩
 have HX := Zd (hallR_parts c (u : Int) M nch cn th hnch hcn hth)
 have HV : Hid (readH c ((u : Int) :: M) = if putH c (hallR c ((u : Int) :: M)) = (u : Int) :: M then some (hallR c ((u : Int) :: M)) else .none) := Zd (by
  unfold readH
  by_cases h : putH c (hallR c ((u : Int) :: M)) = (u : Int) :: M
  . rw [if_pos ⟨hk, hk3, hsz, h⟩, if_pos h]
  . rw [if_neg (fun g => h g.2.2.2), if_neg h])
 obtain ⟨b, o, rfl, hbl, hcell⟩ := hR.at_ (by simp [words])
 have HRD := Zd (fun (W : World) (hW : Below w.heap.size w W) => (show RdrAt (W.alloc (.cells #[.slice (some ⟨b, o, none⟩) ((u : Int) :: M).length c0] 172)) W.heap.size b ((u : Int) :: M) from
  ⟨⟨o, c0, Blk.new W 172 [_], hL, fun k hk => by
   rw [World.cell?_alloc_lt _ _ _ (show b < W.heap.size by have := hW.size; omega), hW.cell (p := ⟨b, o + k, none⟩) hbl]
   exact hcell k _ (words_at hk)⟩, by have := hW.size; omega, by have := hW.size; simp; omega, hbig⟩))
 have HRW0 := Zd (fun W (hW : Below w.heap.size w W) => hR.below hW)
 have HCF := Zd hc
 have HM := Zd hM
 have HBL := Zd hbl
 have a32 := and32 u (by omega)
 have v0 : 0 <= (u : Int) % 4294967296 := by omega
 have v1 : (u : Int) % 4294967296 <= 4294967295 := by omega
 have HCN := Zd hcn
 have HEQN := Zd (And.intro hcn (And.intro hth hnch))
 rw [hcn, hth, hnch] at HBK HBX HB0
 have HPT := Zd (fun W (y : Hal) (hb : Below w.heap.size w W) (hy : HalAt W y) => kPutH_any c y W (hc.below hb) hy)
 have HRC := Zd (fun g W M' (hW : RdrAt W g b M') (hn : 1 + cn <= M'.length) => rdr_channel g b M' c cn W hW hcn (by omega) hn)
 unfold cfgV at HCK HSZ HPT HRC ⊢
 rw [hcn, hth, hnch] at HCK HSZ HRC HPT ⊢
 clear hcell hR hk hk3 hsz hsz' hsz2 hc hb hM h00 hbl hcn hth hnch hcap8 HBC hL hbig
 generalize hll : ((u : Int) :: M).length = n at *
 have HLL := Zd hll
 clear hll
 generalize sizeS c = sz at *
 generalize hallR c ((u : Int) :: M) = HP at *
 generalize readH c ((u : Int) :: M) = R at *
 generalize (u : Int) % 4294967296 = tk at *
 go_enter Tryz.func106, Tryz.ntmps106
 go_upto_region 3 with (first
  | (go_at_call 20; refine (HCK.out _ HBX.out).mono ?_; rintro er w1 ⟨rfl, hb1⟩; have HB1 := Zd (btr HBX.out hb1); have HY1 := Zd (HB0.out.below hb1 HB0.out.lt); have HC1 := Zd (HBK.out.below hb1 HBK.out.lt); clear hb1; obtain ⟨f0, f1, f2, f3, f4, f5, f6, f7, f8, f9, f10⟩ := (cfg_blkN HC1.out))
  | (go_at_call 133; refine (HSZ.out _ HB1.out).mono ?_; rintro er w2 ⟨rfl, hb2⟩; have HB2 := Zd (btr HB1.out hb2); have HY2 := Zd (HY1.out.below hb2 HY1.out.lt); have HC2 := Zd (HC1.out.below hb2 HC1.out.lt); clear hb2 f0 f1 f2 f3 f4 f5 f6 f7 f8 f9 f10))
 have HR2 := Zd (HRD.out w2 HB2.out)
 clear HBK HBX HB0 HCK HSZ HB1 HC1 HY1 HRD e3 e4
 have hgw : w.heap.size + 1 < w2.heap.size := HY2.out.lt
 go_upto_region 4 with fail
 have HCV := Zd (HC2.out.alloc (.cells #[.slice (some ⟨b, o, none⟩) n c0] 172))
 have HYV := Zd (HY2.out.alloc (.cells #[.slice (some ⟨b, o, none⟩) n c0] 172))
 have hgV : w2.heap.size < (w2.alloc (.cells #[.slice (some ⟨b, o, none⟩) n c0] 172)).heap.size := lt_alloc _ _
 have HBV := Zd (HB2.out.alloc HB2.out.size (.cells #[.slice (some ⟨b, o, none⟩) n c0] 172))
 have hbV := HR2.out.bl
 clear HC2 HY2 HB2
 generalize w2.alloc (.cells #[.slice (some ⟨b, o, none⟩) n c0] 172) = V at *
 generalize w2.heap.size = g at *
 have HNX := Zd (rdr_next g b (u : Int) M V HR2.out)
 clear HR2
 go_upto_region 5 with (go_at_call 134; refine HNX.out.mono ?_; rintro er w3 ⟨rfl, hr3, ho3⟩; have HR3 := Zd hr3; have HO3 := Zd ho3; clear hr3 ho3)
 have hV3 : V.heap.size <= w3.heap.size := HO3.out.size
 have hkg : w3.heap.size ≠ g := by omega
 have HST : Hid (RdSt g b w3.heap.size V (w3.alloc (.cells #[.int .i64 tk, .slice none 0 0, .slice none 0 0, .slice none 0 0] 87)) M ⟨tk, none, 0, [], none, 0, [], none, 0, []⟩) := Zd
  ⟨HR3.out.below ((Below.refl _ _).alloc (Nat.le_refl _) _), blk_new rfl, ⟨own_nil _ _ _ _, fun x hx => (by cases hx), ⟨own_nil _ _ _ _, fun x hx => (by cases hx)⟩, own_nil _ _ _ _⟩, HO3.out.alloc _⟩
 clear HR3 HO3 HNX
 generalize w3.alloc (.cells #[.int .i64 tk, .slice none 0 0, .slice none 0 0, .slice none 0 0] 87) = W4 at *
 generalize w3.heap.size = k7 at *
 have ncg : w.heap.size ≠ g := by omega
 have nyg : w.heap.size + 1 ≠ g := by omega
 have y2 : W4.cell? ⟨w.heap.size, 2, none⟩ = some (.int .i64 (nch : Int)) := (HCV.out.only HST.out.on ncg).cell (i := 2) rfl
 go_upto_region 6 with fail
 clear y2
 go_loopg [34] nch (fun gg i wr => ∃ (k : Nat) (A1 : Option Addr) (c1 : Nat) (l : List Chn), k <= nch /\ gg = nch - k /\ i = .int .i64 k /\ l.map Chn.p = chansR cn k M /\ RdSt g b k7 V wr (M.drop (k * (1 + cn))) ⟨tk, A1, c1, l, none, 0, [], none, 0, []⟩)
 case atStart => exact ⟨0, none, 0, [], Nat.zero_le _, rfl, rfl, rfl, by simpa using HST.out⟩
 case round =>
  obtain ⟨k, A1, c1, l, hk, hg, rfl, hlp, hst⟩ := hrel
  have HG := Zd hg
  have HS := Zd hst
  have HLP := Zd hlp
  have hlk : l.length = k := by
   have := congrArg List.length hlp
   rw [List.length_map] at this
   rw [this]; unfold chansR; simp
  have HLK := Zd hlk
  have HL8 : Hid (l.length <= 8) := Zd (by omega)
  clear hg hst hlp HST hlk
  by_cases hlt : k < nch
  . have HSC := Zd (chansR_succ cn k M)
    have HML : Hid (1 + cn <= (M.drop (k * (1 + cn))).length) := Zd (by
     rw [List.length_drop, HM.out]
     have : k * (1 + cn) + (1 + cn) <= nch * (1 + cn) := by
      have := Nat.mul_le_mul_right (1 + cn) (show k + 1 <= nch by omega)
      rw [Nat.add_mul, Nat.one_mul] at this
      exact this
     omega)
    have HMD : Hid ((M.drop (k * (1 + cn))).drop (1 + cn) = M.drop ((k + 1) * (1 + cn))) := Zd (by rw [List.drop_drop, Nat.add_mul, Nat.one_mul])
    generalize M.drop (k * (1 + cn)) = MK at *
    have HSS : Hid (∀ W', Blk W' k7 87 [.int .i64 tk, .slice A1 l.length c1, .slice none 0 0, .slice none 0 0] -> Blk W' w.heap.size 24 [.int .i64 c.kind, .int .i64 (th : Int), .int .i64 (nch : Int), .int .i64 (cn : Int), .int .i64 c.nodes, .int .i64 c.retire, .int .i64 c.patience, .int .i64 c.tags, .int .i64 c.seqs, .int .i64 c.gens, .slice c.sa c.start.length c.sc] -> (fun w' => w'.cell? ⟨k7, 1, none⟩ = some (.slice A1 l.length c1) /\ w'.cell? ⟨w.heap.size, 0, none⟩ = some (.int .i64 c.kind) /\ w'.cell? ⟨w.heap.size, 1, none⟩ = some (.int .i64 (th : Int)) /\ w'.cell? ⟨w.heap.size, 2, none⟩ = some (.int .i64 (nch : Int)) /\ w'.cell? ⟨w.heap.size, 3, none⟩ = some (.int .i64 (cn : Int)) /\ w'.cell? ⟨w.heap.size, 4, none⟩ = some (.int .i64 c.nodes) /\ w'.cell? ⟨w.heap.size, 5, none⟩ = some (.int .i64 c.retire) /\ w'.cell? ⟨w.heap.size, 6, none⟩ = some (.int .i64 c.patience) /\ w'.cell? ⟨w.heap.size, 7, none⟩ = some (.int .i64 c.tags) /\ w'.cell? ⟨w.heap.size, 8, none⟩ = some (.int .i64 c.seqs) /\ w'.cell? ⟨w.heap.size, 9, none⟩ = some (.int .i64 c.gens) /\ w'.cell? ⟨w.heap.size, 10, none⟩ = some (.slice c.sa c.start.length c.sc)) W') := Zd (fun W' hX hC => ⟨hX.cell (i := 1) rfl, hC.cell (i := 0) rfl, hC.cell (i := 1) rfl, hC.cell (i := 2) rfl, hC.cell (i := 3) rfl, hC.cell (i := 4) rfl, hC.cell (i := 5) rfl, hC.cell (i := 6) rfl, hC.cell (i := 7) rfl, hC.cell (i := 8) rfl, hC.cell (i := 9) rfl, hC.cell (i := 10) rfl⟩)
    go_upto_region 7 with fail
    refine AnyT.region (S := fun w' => w'.cell? ⟨k7, 1, none⟩ = some (.slice A1 l.length c1) /\ w'.cell? ⟨w.heap.size, 0, none⟩ = some (.int .i64 c.kind) /\ w'.cell? ⟨w.heap.size, 1, none⟩ = some (.int .i64 (th : Int)) /\ w'.cell? ⟨w.heap.size, 2, none⟩ = some (.int .i64 (nch : Int)) /\ w'.cell? ⟨w.heap.size, 3, none⟩ = some (.int .i64 (cn : Int)) /\ w'.cell? ⟨w.heap.size, 4, none⟩ = some (.int .i64 c.nodes) /\ w'.cell? ⟨w.heap.size, 5, none⟩ = some (.int .i64 c.retire) /\ w'.cell? ⟨w.heap.size, 6, none⟩ = some (.int .i64 c.patience) /\ w'.cell? ⟨w.heap.size, 7, none⟩ = some (.int .i64 c.tags) /\ w'.cell? ⟨w.heap.size, 8, none⟩ = some (.int .i64 c.seqs) /\ w'.cell? ⟨w.heap.size, 9, none⟩ = some (.int .i64 c.gens) /\ w'.cell? ⟨w.heap.size, 10, none⟩ = some (.slice c.sa c.start.length c.sc)) (k := 7) (by kernel_rfl) (HSS.out _ (Blk.drew HS.out.box) (Blk.drew (HCV.out.only HS.out.on ncg))) (fun hHeld => ?_)
    refine AnyT.tkp 0 (.pointer (some ⟨k7, 1, none⟩)) rfl hHeld ?_
    refine AnyT.tk 1 (.slice A1 l.length c1) rfl (Or.inl ⟨by rfl, fun w hSw => by obtain ⟨h0, f0, f1, f2, f3, f4, f5, f6, f7, f8, f9, f10⟩ := hSw; go_simp⟩) hHeld ?_
    refine AnyT.tkp 2 (.pointer (some ⟨g, 0, none⟩)) rfl hHeld ?_
    refine AnyT.tk 3 (.agg #[.int .i64 c.kind, .int .i64 (th : Int), .int .i64 (nch : Int), .int .i64 (cn : Int), .int .i64 c.nodes, .int .i64 c.retire, .int .i64 c.patience, .int .i64 c.tags, .int .i64 c.seqs, .int .i64 c.gens, .slice c.sa c.start.length c.sc]) rfl (Or.inl ⟨by rfl, fun w hSw => by obtain ⟨h0, f0, f1, f2, f3, f4, f5, f6, f7, f8, f9, f10⟩ := hSw; go_simp⟩) hHeld ?_
    try simp only [Nrq, Nrs]
    have HSD := Zd (HS.out.below (Below.refl wr.heap.size wr).drew)
    clear HS
    generalize wr.drew = VD at *
    refine AnyT.next (i := 4) (by kernel_rfl) rfl (fun K hK => ?_)
    clear hHeld
    rw [if_pos (by rfl)]
    try simp only [Nrq]
    go_simp
    refine (HRC.out g VD MK HSD.out.rdr HML.out).mono ?_
    rintro er w5 ⟨y, rfl, hyp, hyo, hr5, ho5⟩
    have HS5 := Zd (HSD.out.call ho5 hr5 hgV (by omega))
    have HYO := Zd (hyo.lower HSD.out.on.size)
    have HYP := Zd hyp
    clear hyp hyo hr5 ho5 HSD
    unfold chnV
    go_wp2_with fail
    refine hK.out _ _ (HSS.out _ HS5.out.box (HCV.out.only HS5.out.on ncg)) (fun hHeld => ?_)
    clear hK K
    try simp only [Nrq, Nrs]
    have HS6 := Zd (HS5.out.below ((Below.refl _ _).alloc (Nat.le_refl _) (.cells #[.int .i64 y.gen, .int .i64 y.cap, .bool y.used, .bool y.closed, .slice y.A y.buf.length y.c] 124)))
    have HYO6 := Zd (HYO.out.below ((Below.refl _ _).alloc (Nat.le_refl _) (.cells #[.int .i64 y.gen, .int .i64 y.cap, .bool y.used, .bool y.closed, .slice y.A y.buf.length y.c] 124)))
    have HR6 : Hid (Rd (w5.alloc (.cells #[.int .i64 y.gen, .int .i64 y.cap, .bool y.used, .bool y.closed, .slice y.A y.buf.length y.c] 124)) (some ⟨w5.heap.size, 0, none⟩) (rows [y])) := Zd (blk_new (cs := rows [y]) rfl).rd
    refine AnyT.next (i := 5) (by kernel_rfl) rfl (fun K hK => ?_)
    clear hHeld
    rw [if_pos (by rfl)]
    try simp only [Nrq]
    go_simp
    refine hK.out _ _ (HSS.out _ HS6.out.box (HCV.out.only HS6.out.on ncg)) (fun hHeld => ?_)
    clear hK K HS5 HYO
    try simp only [Nrq, Nrs]
    have HN6 : Hid ((some (⟨w5.heap.size, 0, none⟩ : Addr)) = none -> False) := Zd (by simp)
    generalize (some (⟨w5.heap.size, 0, none⟩ : Addr)) = A6 at *
    generalize w5.alloc (.cells #[.int .i64 y.gen, .int .i64 y.cap, .bool y.used, .bool y.closed, .slice y.A y.buf.length y.c] 124) = w6 at *
    refine AnyT.next (i := 6) (by kernel_rfl) rfl (fun K hK => ?_)
    clear hHeld
    rw [if_pos (by rfl)]
    try simp only [Nrq]
    refine wp_app (.tmp 37) (.tmp 41) 83 124 rfl V.heap.size (chnV Chn.none) 5 48 Tryz.underlying83 CloneCh_info rfl (by decide) A1 l.length c1 (rows l) (by rfl) HS6.out.own.cr A6 1 1 (rows [y]) (by rfl) (fun e => (HN6.out e).elim) rfl HR6.out (rows_one _) (l.length + 1) rfl (rows (l ++ [y])) (by rw [rows_append]) (by have := HL8.out; unfold maxLen; omega) (by have := HL8.out; omega) HS6.out.on.size ?_
    intro A7 c7 w7 hown7 hg7 hb7
    have HE := Zd (HS6.out.chan HYO6.out hown7 hg7 hgV hbV (by omega))
    have HX7 := Zd (blk_grown HS6.out.box hg7 (own_blk_neL HS6.out.own.cr HS6.out.box (by decide)))
    have HC7 := Zd (blk_grown (HCV.out.only HS6.out.on ncg) hg7 (own_blk_neL HS6.out.own.cr (HCV.out.only HS6.out.on ncg) (by decide)))
    refine hK.out _ _ (HSS.out _ HX7.out HC7.out) (fun hHeld => ?_)
    clear hK K hown7 hg7 hb7 HS6 HYO6 HR6 hHeld
    try simp only [Nrs]
    have x1 := HX7.out.cell (i := 1) rfl
    have x1f := HX7.out.frozen 1
    refine AnyT.past (i := 7) (by kernel_rfl) (by kernel_rfl) rfl (fun K hK => ?_)
    rw [if_pos (by rfl)]
    try simp only [Nrq]
    go_simp
    try go_wp2_with fail
    refine hK.out _ _ ?_
    clear hK K
    try simp only [Nrq, Nrs]
    refine AnyT.past (i := 8) (by kernel_rfl) (by kernel_rfl) rfl (fun K hK => ?_)
    rw [if_pos (by rfl)]
    try simp only [Nrq]
    go_simp
    try go_wp2_with fail
    refine hK.out _ _ ?_
    clear hK K
    try simp only [Nrq, Nrs]
    refine AnyT.done (by kernel_rfl) ?_ _
    clear x1 x1f HX7 HC7
    go_wp2_with fail
    go_roundg (nch - (k + 1))
    case measure => rw [HG.out]; omega
    case rel => exact ⟨k + 1, A7, c7, l ++ [y], by omega, rfl, by go_num, by rw [List.map_append, HLP.out, HSC.out, <- HYP.out]; rfl, by rw [<- HMD.out]; exact HE.out⟩
  . obtain rfl : k = nch := by omega
    have HQ := Zd (show RdSt g b k7 V wr (M.drop (k * (1 + cn))) ⟨tk, A1, c1, l, none, 0, [], none, 0, []⟩ from HS.out)
    have HMW : Hid ((M.drop (k * (1 + cn))).length = th * 4 + th) := Zd (by rw [List.length_drop, HM.out]; omega)
    have y1 : wr.cell? ⟨w.heap.size, 1, none⟩ = some (.int .i64 (th : Int)) := (HCV.out.only HS.out.on ncg).cell (i := 1) rfl
    clear HS HG
    generalize M.drop (k * (1 + cn)) = MW at *
    go_upto_region 10 with fail
    clear y1
    go_loopg [47] th (fun gg i wr => ∃ (j : Nat) (A2 : Option Addr) (c2 : Nat) (lw : List Wtr), j <= th /\ gg = th - j /\ i = .int .i64 j /\ lw.map Wtr.p = waitsR j MW /\ RdSt g b k7 V wr (MW.drop (j * 4)) ⟨tk, A1, c1, l, A2, c2, lw, none, 0, []⟩)
    case atStart => exact ⟨0, none, 0, [], Nat.zero_le _, rfl, rfl, rfl, by simpa using HQ.out⟩
    case round =>
     obtain ⟨j, A2, c2, lw, hj, hg, rfl, hwp, hst⟩ := hrel
     have HG := Zd hg
     have HS := Zd hst
     have HWP := Zd hwp
     have hlj : lw.length = j := by
      have := congrArg List.length hwp
      rw [List.length_map] at this
      rw [this]; unfold waitsR; simp
     have HLJ := Zd hlj
     have HL64 : Hid (lw.length <= 64) := Zd (by omega)
     clear hg hst hwp HQ hlj
     by_cases hlt : j < th
     . have HSC := Zd (waitsR_succ j MW)
       have HML : Hid (4 <= (MW.drop (j * 4)).length) := Zd (by
        rw [List.length_drop, HMW.out]; omega)
       have HMD : Hid ((MW.drop (j * 4)).drop 4 = MW.drop ((j + 1) * 4)) := Zd (by rw [List.drop_drop, Nat.add_mul])
       generalize MW.drop (j * 4) = MK at *
       have HSS : Hid (∀ W', Blk W' k7 87 [.int .i64 tk, .slice A1 l.length c1, .slice A2 lw.length c2, .slice none 0 0] -> (fun w' => w'.cell? ⟨k7, 2, none⟩ = some (.slice A2 lw.length c2)) W') := Zd (fun W' hX => hX.cell (i := 2) rfl)
       go_upto_region 11 with fail
       refine AnyT.region (S := fun w' => w'.cell? ⟨k7, 2, none⟩ = some (.slice A2 lw.length c2)) (k := 6) (by kernel_rfl) (HSS.out _ (Blk.drew HS.out.box)) (fun hHeld => ?_)
       refine AnyT.tkp 0 (.pointer (some ⟨k7, 2, none⟩)) rfl hHeld ?_
       refine AnyT.tkp 1 (.slice A2 lw.length c2) rfl hHeld ?_
       refine AnyT.tkp 2 (.pointer (some ⟨g, 0, none⟩)) rfl hHeld ?_
       try simp only [Nrq, Nrs]
       have HSD := Zd (HS.out.below (Below.refl wr.heap.size wr).drew)
       clear HS
       generalize wr.drew = VD at *
       refine AnyT.next (i := 3) (by kernel_rfl) rfl (fun K hK => ?_)
       clear hHeld
       rw [if_pos (by rfl)]
       try simp only [Nrq]
       go_simp
       refine (rdr_wait g b MK VD HSD.out.rdr HML.out).mono ?_
       rintro er w5 ⟨y, rfl, hyp, hyo, hr5, ho5⟩
       have HS5 := Zd (HSD.out.call ho5 hr5 hgV (by omega))
       have HYO := Zd (own_lower hyo HSD.out.on.size)
       have HYP := Zd hyp
       clear hyp hyo hr5 ho5 HSD
       unfold wtrV
       go_wp2_with fail
       refine hK.out _ _ (HSS.out _ HS5.out.box) (fun hHeld => ?_)
       clear hK K
       try simp only [Nrq, Nrs]
       have HS6 := Zd (HS5.out.below ((Below.refl _ _).alloc (Nat.le_refl _) (.cells #[.bool y.on, .int .i64 y.ticket, .int .i64 y.seq, .slice y.A y.cs.length y.c] 128)))
       have HYO6 := Zd (own_below HYO.out ((Below.refl _ _).alloc (Nat.le_refl _) (.cells #[.bool y.on, .int .i64 y.ticket, .int .i64 y.seq, .slice y.A y.cs.length y.c] 128)))
       have HR6 : Hid (Rd (w5.alloc (.cells #[.bool y.on, .int .i64 y.ticket, .int .i64 y.seq, .slice y.A y.cs.length y.c] 128)) (some ⟨w5.heap.size, 0, none⟩) (rows [y])) := Zd (blk_new (cs := rows [y]) rfl).rd
       refine AnyT.next (i := 4) (by kernel_rfl) rfl (fun K hK => ?_)
       clear hHeld
       rw [if_pos (by rfl)]
       try simp only [Nrq]
       go_simp
       refine hK.out _ _ (HSS.out _ HS6.out.box) (fun hHeld => ?_)
       clear hK K HS5 HYO
       try simp only [Nrq, Nrs]
       have HN6 : Hid ((some (⟨w5.heap.size, 0, none⟩ : Addr)) = none -> False) := Zd (by simp)
       generalize (some (⟨w5.heap.size, 0, none⟩ : Addr)) = A6 at *
       generalize w5.alloc (.cells #[.bool y.on, .int .i64 y.ticket, .int .i64 y.seq, .slice y.A y.cs.length y.c] 128) = w6 at *
       refine AnyT.next (i := 5) (by kernel_rfl) rfl (fun K hK => ?_)
       clear hHeld
       rw [if_pos (by rfl)]
       try simp only [Nrq]
       refine wp_app (.tmp 50) (.tmp 53) 84 128 rfl V.heap.size (wtrV Wtr.none) 4 48 Tryz.underlying84 CloneWt_info rfl (by decide) A2 lw.length c2 (rows lw) (by rfl) HS6.out.own.wr.row A6 1 1 (rows [y]) (by rfl) (fun e => (HN6.out e).elim) rfl HR6.out (rows_one _) (lw.length + 1) rfl (rows (lw ++ [y])) (by rw [rows_append]) (by have := HL64.out; unfold maxLen; omega) (by have := HL64.out; omega) HS6.out.on.size ?_
       intro A7 c7 w7 hown7 hg7 hb7
       have HE := Zd (HS6.out.wait HYO6.out hown7 hg7 hgV hbV (by omega))
       have HX7 := Zd (blk_grown HS6.out.box hg7 (own_blk_neL HS6.out.own.wr.row HS6.out.box (by decide)))
       refine hK.out _ _ (HSS.out _ HX7.out) (fun hHeld => ?_)
       clear hK K hown7 hg7 hb7 HS6 HYO6 HR6 hHeld
       try simp only [Nrs]
       have x1 := HX7.out.cell (i := 2) rfl
       have x1f := HX7.out.frozen 2
       refine AnyT.past (i := 6) (by kernel_rfl) (by kernel_rfl) rfl (fun K hK => ?_)
       rw [if_pos (by rfl)]
       try simp only [Nrq]
       go_simp
       try go_wp2_with fail
       refine hK.out _ _ ?_
       clear hK K
       try simp only [Nrq, Nrs]
       refine AnyT.past (i := 7) (by kernel_rfl) (by kernel_rfl) rfl (fun K hK => ?_)
       rw [if_pos (by rfl)]
       try simp only [Nrq]
       go_simp
       try go_wp2_with fail
       refine hK.out _ _ ?_
       clear hK K
       try simp only [Nrq, Nrs]
       refine AnyT.done (by kernel_rfl) ?_ _
       clear x1 x1f HX7
       go_wp2_with fail
       go_roundg (th - (j + 1))
       case measure => rw [HG.out]; omega
       case rel => exact ⟨j + 1, A7, c7, lw ++ [y], by omega, rfl, by go_num, by rw [List.map_append, HWP.out, HSC.out, <- HYP.out]; rfl, by rw [<- HMD.out]; exact HE.out⟩
     . obtain rfl : j = th := by omega
       have HMD : Hid (j <= (MW.drop (j * 4)).length) := Zd (by rw [List.length_drop, HMW.out]; omega)
       have HRS := Zd (rdr_results g b (MW.drop (j * 4)) j wr HS.out.rdr HMD.out (by omega))
       have HRL := Zd (resR_len j (MW.drop (j * 4)))
       have HXE : Hid (HP = ⟨tk, l.map Chn.p, lw.map Wtr.p, resR j (MW.drop (j * 4))⟩) := Zd (by rw [HX.out, HLP.out, HWP.out])
       have y1 : wr.cell? ⟨w.heap.size, 1, none⟩ = some (.int .i64 (j : Int)) := (HCV.out.only HS.out.on ncg).cell (i := 1) rfl
       have HFEW := Zd (And.intro (chans_few HLP.out) (waits_few HWP.out))
       clear HX HLP HWP HG HMD HMW
       generalize MW.drop (j * 4) = MD at *
       go_upto_region 14 with (go_at_call 137; refine HRS.out.mono ?_; rintro er w5 ⟨A3, c3, rfl, how5, hr5, ho5⟩; have HS5 := Zd (HS.out.call ho5 hr5 hgV (by omega)); have HO5 := Zd (own_lower how5 HS.out.on.size); clear how5 hr5 ho5; have x3 := HS5.out.box.cell (i := 3) rfl; have x3f := HS5.out.box.frozen 3)
       have HE : Hid (RdSt g b k7 V (w5.setCell ⟨k7, 3, none⟩ (.slice A3 j c3)) (MD.drop j) ⟨tk, A1, c1, l, A2, c2, lw, A3, c3, resR j MD⟩) := Zd (by
        have := HS5.out.done (dn' := resR j MD) (A' := A3) (c' := c3) (by rw [HRL.out]; exact HO5.out) hgV hbV (by omega)
        rw [HRL.out] at this
        exact this)
       clear HS5 HO5 x3 x3f HS HRS
       generalize w5.setCell ⟨k7, 3, none⟩ (.slice A3 j c3) = W6 at *
       generalize resR j MD = dn at *
       have HB6 := Zd (HBV.out.trans (HE.out.on.below (by omega : w.heap.size <= g) (by omega)))
       have HC6 := Zd (HCV.out.only HE.out.on ncg)
       have HY6 := Zd (HYV.out.only HE.out.on nyg)
       have hfew : HalFew ⟨tk, A1, c1, l, A2, c2, lw, A3, c3, dn⟩ := ⟨by have := HL8.out; show l.length <= _; omega, fun x hx => by have := HFEW.out.1 x hx; omega, by have := HL64.out; show lw.length <= _; omega, fun x hx => by have := HFEW.out.2 x hx; omega, by have := HRL.out; show dn.length <= _; omega⟩
       have HPP : Hid (Hal.p ⟨tk, A1, c1, l, A2, c2, lw, A3, c3, dn⟩ = HP) := Zd (by rw [HXE.out]; rfl)
       have HPW := Zd (HPT.out W6 ⟨tk, A1, c1, l, A2, c2, lw, A3, c3, dn⟩ HB6.out (HE.out.own.at_ hfew))
       rw [HPP.out] at HPW
       unfold halV at HPW
       simp only [HRL.out] at HPW
       have HBX := HE.out.box
       simp only [HRL.out] at HBX
       have HBH := Zd HBX
       have hgl7 := HBX.lt
       have hgc := HC6.out.lt
       obtain ⟨f0, f1, f2, f3, f4, f5, f6, f7, f8, f9, f10⟩ := (cfg_blkN HC6.out)
       have q0 := HBX.cell (i := 0) rfl
       have q1 := HBX.cell (i := 1) rfl
       have q2 := HBX.cell (i := 2) rfl
       have q3 := HBX.cell (i := 3) rfl
       have HOW := Zd (HE.out.own.lower HBV.out.size)
       clear HBX hfew HPT HCV HYV HE HBV HRC
       obtain ⟨PW, hPW⟩ : ∃ PW, PW = putH c HP := ⟨_, rfl⟩
       rw [<- hPW] at HPW HV
       clear hPW
       have HEQ := Zd (fun W A6 c6 (hA : Rd W A6 (words PW)) (hw : Below w.heap.size w W) (hl : PW.length <= maxLen) => WordsEq_any A6 (some ⟨b, o, none⟩) c6 c0 PW ((u : Int) :: M) W hl (by rw [HLL.out]; have := HM.out; have := HLL.out; simp at this; unfold maxLen; omega) hA (HRW0.out W hw))
       rw [HLL.out] at HEQ
       have HARM : Hid True := Zd trivial
       cases hq : (PW == (u : Int) :: M)
       . have HVV : Hid (R = .none) := Zd (by rw [HV.out, if_neg (by intro h; rw [h] at hq; simp at hq)])
         rw [hq] at HEQ
         clear hq HV
         go_wp2_with (first
          | (go_at_call 37; refine HPW.out.mono ?_; rintro er w7 ⟨A6, c6, rfl, how6, hb6⟩; have HR6 := Zd (own_rd how6); have HPL := Zd (own_max how6); have HB7 := Zd (btr HB6.out hb6); have HW7 := Zd hb6; clear how6 hb6)
          | (go_at_call 138; refine (HEQ.out _ _ _ HR6.out HB7.out HPL.out).mono ?_; rintro er w8 ⟨rfl, hb8⟩; have HW8 := Zd (btr HW7.out hb8); have HY8 := Zd (HY6.out.below HW8.out HY6.out.lt); clear hb8; have z0 := HY8.out.cell (i := 0) rfl; have z0f := HY8.out.frozen 0; have z1 := HY8.out.cell (i := 1) rfl; have z1f := HY8.out.frozen 1; have z2 := HY8.out.cell (i := 2) rfl; have z2f := HY8.out.frozen 2; have z3 := HY8.out.cell (i := 3) rfl; have z3f := HY8.out.frozen 3))
         refine bodyPost_ret (v := .tuple #[halV Hal.none, .bool false]) (ret_hal (g := w.heap.size + 1) rfl rfl (hal_load4 (put4 HY8.out)) rfl) rfl ?_
         rw [HVV.out]
         exact ⟨Hal.none, rfl, fun p hp => (by cases hp), OwnHal.none _ _, below4 (HB6.out.trans (HW8.out.mono HB6.out.size)) (by omega)⟩
       . have HVV : Hid (R = some HP) := Zd (by rw [HV.out, if_pos (by simpa using hq)])
         rw [hq] at HEQ
         clear hq HV
         go_wp2_with (first
          | (go_at_call 37; refine HPW.out.mono ?_; rintro er w7 ⟨A6, c6, rfl, how6, hb6⟩; have HR6 := Zd (own_rd how6); have HPL := Zd (own_max how6); have HB7 := Zd (btr HB6.out hb6); have HW7 := Zd hb6; clear how6 hb6)
          | (go_at_call 138; refine (HEQ.out _ _ _ HR6.out HB7.out HPL.out).mono ?_; rintro er w8 ⟨rfl, hb8⟩; have HW8 := Zd (btr HW7.out hb8); have HY8 := Zd (HY6.out.below HW8.out HY6.out.lt); have HH8 := Zd (HBH.out.below HW8.out HBH.out.lt); clear hb8 q0 q1 q2 q3; have q0 := HH8.out.cell (i := 0) rfl; have q1 := HH8.out.cell (i := 1) rfl; have q2 := HH8.out.cell (i := 2) rfl; have q3 := HH8.out.cell (i := 3) rfl; have z0 := HY8.out.cell (i := 0) rfl; have z0f := HY8.out.frozen 0; have z1 := HY8.out.cell (i := 1) rfl; have z1f := HY8.out.frozen 1; have z2 := HY8.out.cell (i := 2) rfl; have z2f := HY8.out.frozen 2; have z3 := HY8.out.cell (i := 3) rfl; have z3f := HY8.out.frozen 3))
         refine bodyPost_ret (v := .tuple #[.agg #[.int .i64 tk, .slice A1 l.length c1, .slice A2 lw.length c2, .slice A3 j c3], .bool true]) (ret_hal (g := w.heap.size + 1) rfl rfl (hal_load4 (put4 HY8.out)) rfl) rfl ?_
         rw [HVV.out]
         have HO8 := HOW.out.below HW8.out
         refine ⟨⟨tk, A1, c1, l, A2, c2, lw, A3, c3, dn⟩, by unfold halV; simp only [HRL.out]; rfl, fun p hp => ?_, ?_, below4 (HB6.out.trans (HW8.out.mono HB6.out.size)) (by omega)⟩
         . simp only [Option.some.injEq] at hp
           rw [<- hp, HPP.out]
         . exact ((((HO8.boxedH (i := 0) HY8.out).boxedH (i := 1) (HY8.out.set_ 0 _)).boxedH (i := 2) ((HY8.out.set_ 0 _).set_ 1 _)).boxedH (i := 3) (((HY8.out.set_ 0 _).set_ 1 _).set_ 2 _))
theorem startH_fit {c : Cfg} (hc : chkB c = true) (hk : c.kind = 3) : FitH c (startH c) := by
 have hb := chk_cap hc
 have h0 := hc
 simp only [chkB, ownB, inB, hk, Bool.and_eq_true, decide_eq_true_eq] at h0
 have hst : ∀ x ∈ c.start, 0 <= x /\ x <= c.cap := by
  intro x hx
  have h1 := h0.2
  simp only [show ((3 : Int) == 1 || (3 : Int) == 2) = false from rfl, show ((3 : Int) == 3) = true from rfl, if_true, Bool.false_eq_true, if_false, Bool.and_eq_true, Bool.not_eq_true', decide_eq_true_eq] at h1
  have h2 := h1.2
  rw [List.any_eq_false] at h2
  have := h2 x hx
  simpa using this
 have e1 : clampI c.chans 8 = c.chans.toNat := by unfold clampI; omega
 have e2 : clampI c.threads 64 = c.threads.toNat := by unfold clampI; omega
 unfold startH
 rw [e1, e2]
 refine ⟨⟨by simp, by simp⟩, by simp; omega, by simp; omega, by simp; omega, fun r hr => ?_, fun x hx => ?_, fun w hw => ?_⟩
 . rw [(List.mem_replicate.1 hr).2]; decide
 . simp only [List.mem_map] at hx
   obtain ⟨i, _, rfl⟩ := hx
   split
   . rename_i hi
     have h1 := hst _ (getD_mem (d := 0) hi)
     simp only [chanB, inB, valuesB, Bool.and_eq_true, decide_eq_true_eq, Bool.true_or, List.length_nil, List.all_nil]
     refine ⟨⟨⟨⟨by omega, by omega⟩, h1.1, h1.2⟩, ?_, trivial⟩, trivial⟩
     simpa using h1.1
   . show chanB c.cap ⟨0, 0, false, false, []⟩ = true
     unfold chanB inB valuesB
     simp
     omega
 . rw [(List.mem_replicate.1 hw).2]; exact waitB_none
theorem fit_pre {c : Cfg} (hc : chkB c = true) {h : Hal} (hf : FitH c h.p) : HalPre h := by
 have hb := chk_cap hc
 have e1 : h.p.chans.length = h.chans.length := by unfold Hal.p; simp
 have e2 : h.p.waits.length = h.waits.length := by unfold Hal.p; simp
 have e3 : h.p.done.length = h.done.length := rfl
 refine ⟨by have := hf.nch; omega, by have := hf.nwt; omega, by have := hf.ndn; omega, fun x hx => ?_, fun x hx => ?_, fun x hx => ?_, hf.tick.1⟩
 . have h1 := hf.ch x.p (List.mem_map_of_mem hx)
   unfold chanB inB at h1
   simp only [Bool.and_eq_true, decide_eq_true_eq] at h1
   exact h1.1.1.1.1
 . have h1 := hf.ch x.p (List.mem_map_of_mem hx)
   have h2 := chanB_vals h1
   unfold chanB inB at h1
   simp only [Bool.and_eq_true, decide_eq_true_eq] at h1
   have e4 : x.p.cap = x.cap := rfl
   have e5 : x.p.buf = x.buf := rfl
   rw [e4] at h1 h2
   rw [e5] at h2
   omega
 . have h1 := hf.wt x.p (List.mem_map_of_mem hx)
   have e4 : x.p.cs = x.cs := rfl
   unfold waitB inB at h1
   split at h1
   . simp only [Bool.and_eq_true, decide_eq_true_eq] at h1
     rw [e4] at h1
     omega
   . simp only [Bool.and_eq_true, decide_eq_true_eq] at h1
     rw [e4] at h1
     omega
def W64 (l : List Int) : Prop := ∀ v ∈ l, 0 <= v /\ v < 18446744073709551616
theorem W64.app {a b : List Int} (h : W64 a) (h2 : W64 b) : W64 (a ++ b) := fun v hv => by
 rcases List.mem_append.1 hv with h3 | h3
 . exact h v h3
 . exact h2 v h3
theorem W64.row {l : List Int} (h : W64 l) (n : Nat) : W64 (rowI l n) := fun v hv => by
 unfold rowI at hv
 obtain ⟨i, _, rfl⟩ := List.mem_map.1 hv
 split
 . rename_i hi
   exact h _ (getD_mem (d := 0) hi)
 . omega
theorem hallI_big {c : Cfg} {h : HallP} (hc : chkB c = true) (hf : FitH c h) : W64 (hallI c.cap h) := by
 have hb := chk_cap hc
 unfold hallI
 refine W64.app (W64.app (W64.app ?_ ?_) ?_) ?_
 . intro v hv
   rw [List.mem_singleton] at hv
   have := hf.tick
   omega
 . intro v hv
   obtain ⟨x, hx, hv⟩ := List.mem_flatMap.1 hv
   have h1 := hf.ch x hx
   have h2 := chanB_vals h1
   unfold chanB inB at h1
   simp only [Bool.and_eq_true, decide_eq_true_eq] at h1
   have b1 := bitI_rng x.used
   have b2 := bitI_rng x.closed
   rcases List.mem_cons.1 hv with rfl | h3
   . unfold headI; omega
   . refine W64.row (fun y hy => ?_) _ v h3
     have := h2.1 y hy
     simp only [inB, Bool.and_eq_true, decide_eq_true_eq] at this
     omega
 . intro v hv
   obtain ⟨x, hx, hv⟩ := List.mem_flatMap.1 hv
   have h1 := hf.wt x hx
   have b1 := bitI_rng x.on
   cases hon : x.on
   . unfold waitB at h1
     rw [hon, if_neg (by simp)] at h1
     simp only [Bool.and_eq_true, decide_eq_true_eq] at h1
     have hcs : x.cs = [] := List.eq_nil_of_length_eq_zero h1.2
     rcases List.mem_cons.1 hv with rfl | h3
     . unfold wHeadI; rw [hcs, h1.1.1, h1.1.2]; simp; omega
     . refine W64.row (fun y hy => ?_) _ v h3
       rw [hcs] at hy; cases hy
   . have h2 := wait_case h1 hon
     unfold waitB at h1
     rw [hon, if_pos rfl] at h1
     simp only [inB, Bool.and_eq_true, decide_eq_true_eq] at h1
     rcases List.mem_cons.1 hv with rfl | h3
     . unfold wHeadI; omega
     . refine W64.row (fun y hy => ?_) _ v h3
       obtain ⟨k, hk, rfl⟩ := List.mem_map.1 hy
       have := mayC_rng (h2.1 k hk)
       unfold caseI; omega
 . intro v hv
   obtain ⟨r, _, rfl⟩ := List.mem_map.1 hv
   exact resI_big r
theorem putH_big (c : Cfg) (h : HallP) : W64 (putH c h) := by
 unfold putH
 split
 . rename_i hf
   have h1 := fitsH_ok hf
   exact hallI_big h1.1 ((fitsH_iff h1.1 h1.2).1 hf)
 . intro v hv; cases hv
theorem startO_bigH {c : Cfg} (hk : c.kind = 3) : W64 (startO c) := by
 unfold startO
 split
 . first | exact putH_big _ _ | (rw [if_pos hk]; exact putH_big _ _)
 . intro v hv; cases hv
theorem applyO_bigH {c : Cfg} (hk : c.kind = 3) (L : List Int) (t seq : Int) (q : ReqP) (h : W64 L) : W64 (applyO c L t seq q) := by
 unfold applyO
 split
 . exact h
 . try rw [if_pos hk]
   split
   . exact putH_big _ _
   . exact h
theorem startO_len (c : Cfg) : (startO c).length <= 1048576 := by
 unfold startO
 split
 . rename_i hc
   have hb := chk_cap hc
   split
   . unfold putH
     split
     . rw [hallI_len]
       unfold startH clampI
       simp only [List.length_map, List.length_range, List.length_replicate]
       have h1 : (max (min c.chans 8) 0).toNat * (1 + c.cap.toNat) <= 8 * 17 := Nat.mul_le_mul (by omega) (by omega)
       omega
     . simp
   . refine Nat.le_trans (putC_le _ _) ?_
     simp only [List.length_replicate]
     unfold clampI
     omega
 . simp
theorem oStart_hall (c : Cfg) (w : World) (hc : CfgIn w c) (hk : chkB c = true) (hk3 : c.kind = 3) : Calls Tryz.prog 17 #[cfgV c] w (RetWords (startO c) w) := by
 have HV : Hid (startO c = putH c (startH c)) := Zd (by simp [startO, hk, hk3])
 have e3 : (c.kind == 3) = true := by simp [hk3]
 have HFT := Zd (startH_fit hk hk3)
 have HCB := Zd hk
 have HST := Zd (fun W (hb : Below w.heap.size w W) => hStart_any c W hk hk3 (hc.below hb))
 have HPT := Zd (fun W (y : Hal) (hb : Below w.heap.size w W) (hy : HalAt W y) => kPutH_any c y W (hc.below hb) hy)
 have HCK := Zd (fun W (hb : Below w.heap.size w W) => Check_ok c W (hc.below hb) hk)
 have HBC : Hid (Blk (w.alloc (.cells #[.int .i64 c.kind, .int .i64 c.threads, .int .i64 c.chans, .int .i64 c.cap, .int .i64 c.nodes, .int .i64 c.retire, .int .i64 c.patience, .int .i64 c.tags, .int .i64 c.seqs, .int .i64 c.gens, .slice c.sa c.start.length c.sc] 24)) w.heap.size 24 [.int .i64 c.kind, .int .i64 c.threads, .int .i64 c.chans, .int .i64 c.cap, .int .i64 c.nodes, .int .i64 c.retire, .int .i64 c.patience, .int .i64 c.tags, .int .i64 c.seqs, .int .i64 c.gens, .slice c.sa c.start.length c.sc]) := Zd (blk_new rfl)
 have HB := Zd ((Below.refl w.heap.size w).alloc (Nat.le_refl _) (.cells #[.int .i64 c.kind, .int .i64 c.threads, .int .i64 c.chans, .int .i64 c.cap, .int .i64 c.nodes, .int .i64 c.retire, .int .i64 c.patience, .int .i64 c.tags, .int .i64 c.seqs, .int .i64 c.gens, .slice c.sa c.start.length c.sc] 24))
 generalize startO c = R at *
 generalize startH c = SH at *
 clear hc hk hk3
 unfold cfgV at HCK HPT HST ⊢
 go_enter Tryz.func17, Tryz.ntmps17
 go_upto_region 4 with (go_at_call 20; refine (HCK.out _ HB.out).mono ?_; rintro er w1 ⟨rfl, hb1⟩; have HB1 := Zd (btr HB.out hb1); have HC1 := Zd (HBC.out.below hb1 HBC.out.lt); clear hb1; obtain ⟨f0, f1, f2, f3, f4, f5, f6, f7, f8, f9, f10⟩ := cfg_blkN HC1.out)
 clear HBC HB HCK f0 f1 f2 f3 f4 f5 f6 f7 f8 f9 f10
 have HSS : Hid (∀ W', Blk W' w.heap.size 24 [.int .i64 c.kind, .int .i64 c.threads, .int .i64 c.chans, .int .i64 c.cap, .int .i64 c.nodes, .int .i64 c.retire, .int .i64 c.patience, .int .i64 c.tags, .int .i64 c.seqs, .int .i64 c.gens, .slice c.sa c.start.length c.sc] -> (fun w' => w'.cell? ⟨w.heap.size, 0, none⟩ = some (.int .i64 c.kind) /\ w'.cell? ⟨w.heap.size, 1, none⟩ = some (.int .i64 c.threads) /\ w'.cell? ⟨w.heap.size, 2, none⟩ = some (.int .i64 c.chans) /\ w'.cell? ⟨w.heap.size, 3, none⟩ = some (.int .i64 c.cap) /\ w'.cell? ⟨w.heap.size, 4, none⟩ = some (.int .i64 c.nodes) /\ w'.cell? ⟨w.heap.size, 5, none⟩ = some (.int .i64 c.retire) /\ w'.cell? ⟨w.heap.size, 6, none⟩ = some (.int .i64 c.patience) /\ w'.cell? ⟨w.heap.size, 7, none⟩ = some (.int .i64 c.tags) /\ w'.cell? ⟨w.heap.size, 8, none⟩ = some (.int .i64 c.seqs) /\ w'.cell? ⟨w.heap.size, 9, none⟩ = some (.int .i64 c.gens) /\ w'.cell? ⟨w.heap.size, 10, none⟩ = some (.slice c.sa c.start.length c.sc)) W') := Zd (fun W' hC => ⟨hC.cell (i := 0) rfl, hC.cell (i := 1) rfl, hC.cell (i := 2) rfl, hC.cell (i := 3) rfl, hC.cell (i := 4) rfl, hC.cell (i := 5) rfl, hC.cell (i := 6) rfl, hC.cell (i := 7) rfl, hC.cell (i := 8) rfl, hC.cell (i := 9) rfl, hC.cell (i := 10) rfl⟩)
 refine AnyT.region (S := fun w' => w'.cell? ⟨w.heap.size, 0, none⟩ = some (.int .i64 c.kind) /\ w'.cell? ⟨w.heap.size, 1, none⟩ = some (.int .i64 c.threads) /\ w'.cell? ⟨w.heap.size, 2, none⟩ = some (.int .i64 c.chans) /\ w'.cell? ⟨w.heap.size, 3, none⟩ = some (.int .i64 c.cap) /\ w'.cell? ⟨w.heap.size, 4, none⟩ = some (.int .i64 c.nodes) /\ w'.cell? ⟨w.heap.size, 5, none⟩ = some (.int .i64 c.retire) /\ w'.cell? ⟨w.heap.size, 6, none⟩ = some (.int .i64 c.patience) /\ w'.cell? ⟨w.heap.size, 7, none⟩ = some (.int .i64 c.tags) /\ w'.cell? ⟨w.heap.size, 8, none⟩ = some (.int .i64 c.seqs) /\ w'.cell? ⟨w.heap.size, 9, none⟩ = some (.int .i64 c.gens) /\ w'.cell? ⟨w.heap.size, 10, none⟩ = some (.slice c.sa c.start.length c.sc)) (k := 4) (by kernel_rfl) (HSS.out _ (Blk.drew HC1.out)) (fun hHeld => ?_)
 refine AnyT.tk 0 (.agg #[.int .i64 c.kind, .int .i64 c.threads, .int .i64 c.chans, .int .i64 c.cap, .int .i64 c.nodes, .int .i64 c.retire, .int .i64 c.patience, .int .i64 c.tags, .int .i64 c.seqs, .int .i64 c.gens, .slice c.sa c.start.length c.sc]) rfl (Or.inl ⟨by rfl, fun w hSw => by obtain ⟨f0, f1, f2, f3, f4, f5, f6, f7, f8, f9, f10⟩ := hSw; go_simp⟩) hHeld ?_
 refine AnyT.tk 1 (.agg #[.int .i64 c.kind, .int .i64 c.threads, .int .i64 c.chans, .int .i64 c.cap, .int .i64 c.nodes, .int .i64 c.retire, .int .i64 c.patience, .int .i64 c.tags, .int .i64 c.seqs, .int .i64 c.gens, .slice c.sa c.start.length c.sc]) rfl (Or.inl ⟨by rfl, fun w hSw => by obtain ⟨f0, f1, f2, f3, f4, f5, f6, f7, f8, f9, f10⟩ := hSw; go_simp⟩) hHeld ?_
 try simp only [Nrq, Nrs]
 have HCD := Zd (Blk.drew HC1.out)
 have HBD := Zd HB1.out.drew
 clear HC1 HB1
 generalize w1.drew = VD at *
 refine AnyT.next (i := 2) (by kernel_rfl) rfl (fun K hK => ?_)
 clear hHeld
 rw [if_pos (by rfl)]
 try simp only [Nrq]
 go_simp
 refine (HST.out VD HBD.out).mono ?_
 rintro er w2 ⟨y, rfl, hp, hown, hb2⟩
 have HP := Zd hp
 have HC2 := Zd (HCD.out.below hb2 HCD.out.lt)
 have HB2 := Zd (btr HBD.out hb2)
 have hfit : FitH c y.p := by rw [hp]; exact HFT.out
 have HPX := Zd (HPT.out w2 y HB2.out (hown.at_ (fit_pre HCB.out hfit).few))
 clear hp hown hb2 hfit HPT
 unfold halV
 unfold halV at HPX
 go_wp2_with fail
 refine hK.out _ _ (HSS.out _ HC2.out) (fun hHeld => ?_)
 clear hK K
 try simp only [Nrq, Nrs]
 refine AnyT.next (i := 3) (by kernel_rfl) rfl (fun K hK => ?_)
 clear hHeld
 rw [if_pos (by rfl)]
 try simp only [Nrq]
 go_simp
 refine (HPX.out).mono ?_
 rintro er w3 ⟨A3, d3, rfl, ho3, hb3⟩
 have HC3 := Zd (HC2.out.below hb3 HC2.out.lt)
 have HO3 := Zd (own_lower ho3 HB2.out.size)
 have HB3 := Zd (btr HB2.out hb3)
 clear ho3 hb3
 go_wp2_with fail
 refine hK.out _ _ (HSS.out _ HC3.out) (fun hHeld => ?_)
 clear hK K
 try simp only [Nrq, Nrs]
 refine AnyT.past (i := 4) (by kernel_rfl) (by kernel_rfl) rfl (fun K hK => ?_)
 rw [if_pos (by rfl)]
 try simp only [Nrq]
 go_simp
 try go_wp2_with fail
 refine hK.out _ _ ?_
 clear hK K
 try simp only [Nrq, Nrs]
 refine AnyT.done (by kernel_rfl) ?_ _
 clear hHeld
 go_wp2_with fail
 go_ret
 rw [HV.out, <- HP.out]
 exact ⟨A3, d3, rfl, HO3.out, HB3.out⟩
theorem oApplyH_any (c : Cfg) (A : Option Addr) (c0 : Nat) (L : List Int) (t seq : Int) (q : Reqr) (l : List Cse) (w : World) (hk1 : c.kind = 3) (hc : CfgIn w c) (hR : Rd w A (words L)) (hL : L.length <= c0) (hc0 : L.length <= 1048576) (hbig : ∀ x ∈ L, 0 <= x /\ x < 18446744073709551616) (hq : ReqAt w q l) (hql : l.length <= 1048576) :
  Calls Tryz.prog 72 #[cfgV c, .slice A L.length c0, .int .i64 t, .int .i64 seq, reqV q] w (RetWords (applyO c L t seq (q.p l)) w) := by
 obtain ⟨b0, b1, hb0⟩ := box2 w 24 40 (cfgCells c) q.cells
 have HBK := Zd b0
 have HBC := Zd (cfg_blk b0)
 have HBQ := Zd b1
 have HBX := Zd hb0
 clear b0 b1 hb0
 unfold cfgCells Reqr.cells at HBC HBQ HBX HBK
 have HFI := Zd (fun W (hb : Below w.heap.size w W) => pFits_any q l W (hq.below hb))
 have HRDW := Zd (fun W (hb : Below w.heap.size w W) => kReadH_any c A c0 L W (hc.below hb) (hR.below hb) hL hbig)
 have HCL := Zd (fun W (hb : Below w.heap.size w W) => CloneW_any A L.length c0 (words L) W (by omega) (by rw [words_length]; omega) (words_one _) (hR.below hb))
 have HAP := Zd (fun W (h : Hal) (H : HalAt W h) (hp : HalPre h) (hb : Below w.heap.size w W) => hApply_any c h t seq q l W H hp (hq.rd.below hb) hq.len.symm hql (fun W' H' => hCopy_any h W' H' hp.few))
 have HPT := Zd (fun W (y : Hal) (hb : Below w.heap.size w W) (hy : HalAt W y) => kPutH_any c y W (hc.below hb) hy)
 have HV : Hid (applyO c L t seq (q.p l) = if t < 0 ∨ c.threads <= t ∨ seq < 0 ∨ 1048575 < seq ∨ fitsQ (q.p l) = false then L else (match readH c L with | some h => putH c (applyH c.gens c.cap h t seq (q.p l)) | .none => L)) := Zd (by
  unfold applyO
  split
  . rfl
  . first | rfl | rw [if_pos hk1])
 have HFA := Zd (fun h (e : readH c L = some h) (hs : inB seq 0 1048575 = true) (hf : fitsQ (q.p l) = true) => (show chkB c = true /\ FitH c h /\ FitH c (applyH c.gens c.cap h t seq (q.p l)) from ⟨(readH_fit e).1, (readH_fit e).2.2.1, apply_ok (readH_fit e).1 hk1 (readH_fit e).2.2.1 hs hf⟩))
 have e3 : (c.kind == 3) = true := by simp [hk1]
 have e3' : (c.kind != 3) = false := by simp [hk1]
 generalize applyO c L t seq (q.p l) = R at *
 generalize hO : readH c L = O at *
 generalize hF : fitsQ (q.p l) = F at *
 clear hc hR hL hbig hk1 hq hc0 hql
 generalize hn : L.length = n at *
 have HN := Zd hn
 clear hn
 unfold cfgV at HRDW HAP HPT ⊢
 unfold reqV at HFI HAP ⊢
 by_cases h1 : t < 0
 . have HVV : Hid (R = L) := Zd (by rw [HV.out, if_pos (by exact .inl h1)])
   clear HV
   go_enter Tryz.func72, Tryz.ntmps72
   have HBV := Zd HBC.out.all
   go_wp2_with (go_at_call 104; refine (HCL.out _ HBX.out).mono ?_; rintro er w2 ⟨A2, d2, rfl, ho2, hb2⟩; have HO2 := Zd (own_lower ho2 HBX.out.size); have HB2 := Zd (btr HBX.out hb2); clear ho2 hb2)
   go_ret
   exact ⟨A2, d2, by rw [HVV.out, HN.out]; rfl, by rw [HVV.out, HN.out]; exact HO2.out, HB2.out⟩
 by_cases h2 : c.threads <= t
 . have HVV : Hid (R = L) := Zd (by rw [HV.out, if_pos (by exact .inr (.inl h2))])
   clear HV
   go_enter Tryz.func72, Tryz.ntmps72
   have HBV := Zd HBC.out.all
   go_wp2_with (go_at_call 104; refine (HCL.out _ HBX.out).mono ?_; rintro er w2 ⟨A2, d2, rfl, ho2, hb2⟩; have HO2 := Zd (own_lower ho2 HBX.out.size); have HB2 := Zd (btr HBX.out hb2); clear ho2 hb2)
   go_ret
   exact ⟨A2, d2, by rw [HVV.out, HN.out]; rfl, by rw [HVV.out, HN.out]; exact HO2.out, HB2.out⟩
 by_cases h3 : seq < 0
 . have HVV : Hid (R = L) := Zd (by rw [HV.out, if_pos (by exact .inr (.inr (.inl h3)))])
   clear HV
   go_enter Tryz.func72, Tryz.ntmps72
   have HBV := Zd HBC.out.all
   go_wp2_with (go_at_call 104; refine (HCL.out _ HBX.out).mono ?_; rintro er w2 ⟨A2, d2, rfl, ho2, hb2⟩; have HO2 := Zd (own_lower ho2 HBX.out.size); have HB2 := Zd (btr HBX.out hb2); clear ho2 hb2)
   go_ret
   exact ⟨A2, d2, by rw [HVV.out, HN.out]; rfl, by rw [HVV.out, HN.out]; exact HO2.out, HB2.out⟩
 by_cases h4 : 1048575 < seq
 . have HVV : Hid (R = L) := Zd (by rw [HV.out, if_pos (by exact .inr (.inr (.inr (.inl h4))))])
   clear HV
   go_enter Tryz.func72, Tryz.ntmps72
   have HBV := Zd HBC.out.all
   go_wp2_with (go_at_call 104; refine (HCL.out _ HBX.out).mono ?_; rintro er w2 ⟨A2, d2, rfl, ho2, hb2⟩; have HO2 := Zd (own_lower ho2 HBX.out.size); have HB2 := Zd (btr HBX.out hb2); clear ho2 hb2)
   go_ret
   exact ⟨A2, d2, by rw [HVV.out, HN.out]; rfl, by rw [HVV.out, HN.out]; exact HO2.out, HB2.out⟩
 cases F
 . have HVV : Hid (R = L) := Zd (by rw [HV.out, if_pos (by exact .inr (.inr (.inr (.inr rfl))))])
   clear HV
   go_enter Tryz.func72, Tryz.ntmps72
   go_wp2_with (first
    | (go_at_call 50; refine (HFI.out _ HBX.out).mono ?_; rintro er w1 ⟨rfl, hb1⟩; have HB1 := Zd (btr HBX.out hb1); clear hb1)
    | (go_at_call 104; refine (HCL.out _ HB1.out).mono ?_; rintro er w2 ⟨A2, d2, rfl, ho2, hb2⟩; have HO2 := Zd (own_lower ho2 HB1.out.size); have HB2 := Zd (btr HB1.out hb2); clear ho2 hb2))
   go_ret
   exact ⟨A2, d2, by rw [HVV.out, HN.out]; rfl, by rw [HVV.out, HN.out]; exact HO2.out, HB2.out⟩
 have hs : inB seq 0 1048575 = true := by
  simp only [inB, Bool.and_eq_true, decide_eq_true_eq]; omega
 have HS := Zd hs
 clear hs
 cases O with
 | none =>
   have HVV : Hid (R = L) := Zd (by rw [HV.out]; split <;> rfl)
   clear HV hO hF
   go_enter Tryz.func72, Tryz.ntmps72
   go_wp2_with (first
    | (go_at_call 50; refine (HFI.out _ HBX.out).mono ?_; rintro er w1 ⟨rfl, hb1⟩; have HB1 := Zd (btr HBX.out hb1); have HC1 := Zd (HBC.out.below hb1); clear hb1; obtain ⟨f0, f1, f2, f3, f4, f5, f6, f7, f8, f9, f10⟩ := HC1.out.all)
    | (go_at_call 106; refine (HRDW.out _ HB1.out).mono ?_; rintro er w2 ⟨y, rfl, hyp, hyo, hb2⟩; have HB2 := Zd (btr HB1.out hb2); clear hyp hyo hb2; unfold halV; simp only [Option.isSome_none])
    | (go_at_call 104; refine (HCL.out _ (HB2.out.alloc HB2.out.size _)).mono ?_; rintro er w3 ⟨A3, d3, rfl, ho3, hb3⟩; have HO3 := Zd (own_lower ho3 (HB2.out.alloc HB2.out.size _).size); have HB3 := Zd ((HB2.out.alloc HB2.out.size _).trans (hb3.mono (HB2.out.alloc HB2.out.size _).size)); clear ho3 hb3))
   go_ret
   exact ⟨A3, d3, by rw [HVV.out, HN.out]; rfl, by rw [HVV.out, HN.out]; exact HO3.out, HB3.out⟩
 | some h0 =>
   have HVV : Hid (R = putH c (applyH c.gens c.cap h0 t seq (q.p l))) := Zd (by rw [HV.out, if_neg (by rintro (g | g | g | g | g) <;> first | omega | cases g)])
   have HFF := Zd (HFA.out h0 rfl HS.out rfl)
   clear HV HFA hO hF
   go_enter Tryz.func72, Tryz.ntmps72
   go_upto_region 11 with (first
    | (go_at_call 50; refine (HFI.out _ HBX.out).mono ?_; rintro er w1 ⟨rfl, hb1⟩; have HB1 := Zd (btr HBX.out hb1); have HC1 := Zd (HBK.out.below hb1 HBK.out.lt); have HQ1 := Zd (HBQ.out.below hb1 HBQ.out.lt); clear hb1; obtain ⟨f0, f1, f2, f3, f4, f5, f6, f7, f8, f9, f10⟩ := cfg_blkN HC1.out)
    | (go_at_call 106; refine (HRDW.out _ HB1.out).mono ?_; rintro er w2 ⟨y, rfl, hyp, hyo, hb2⟩; have HYP := Zd (hyp h0 rfl); have HYO := Zd hyo; have HB2 := Zd (btr HB1.out hb2); have HC2 := Zd (HC1.out.below hb2 HC1.out.lt); have HQ2 := Zd (HQ1.out.below hb2 HQ1.out.lt); clear hyp hyo hb2; unfold halV; simp only [Option.isSome_some]))
   clear f0 f1 f2 f3 f4 f5 f6 f7 f8 f9 f10 HC1 HQ1 HBC HBK HBQ HBX HFI HRDW HCL
   have HX3 : Hid (Blk (w2.alloc (.cells #[.int .i64 y.ticket, .slice y.CA y.chans.length y.cc, .slice y.WA y.waits.length y.wc, .slice y.DA y.done.length y.dc] 87)) w2.heap.size 87 [.int .i64 y.ticket, .slice y.CA y.chans.length y.cc, .slice y.WA y.waits.length y.wc, .slice y.DA y.done.length y.dc]) := Zd (blk_new rfl)
   have HBE := Zd ((Below.refl w2.heap.size w2).alloc (Nat.le_refl _) (.cells #[.int .i64 y.ticket, .slice y.CA y.chans.length y.cc, .slice y.WA y.waits.length y.wc, .slice y.DA y.done.length y.dc] 87))
   have HB3 := Zd (HB2.out.trans (HBE.out.mono HB2.out.size))
   have HC3 := Zd (HC2.out.below HBE.out HC2.out.lt)
   have HQ3 := Zd (HQ2.out.below HBE.out HQ2.out.lt)
   have HYO3 := Zd (HYO.out.below HBE.out)
   clear HB2 HC2 HQ2 HYO HBE
   generalize w2.alloc (.cells #[.int .i64 y.ticket, .slice y.CA y.chans.length y.cc, .slice y.WA y.waits.length y.wc, .slice y.DA y.done.length y.dc] 87) = V at *
   generalize w2.heap.size = gx at *
   have HSS : Hid (∀ W', Blk W' w.heap.size 24 [.int .i64 c.kind, .int .i64 c.threads, .int .i64 c.chans, .int .i64 c.cap, .int .i64 c.nodes, .int .i64 c.retire, .int .i64 c.patience, .int .i64 c.tags, .int .i64 c.seqs, .int .i64 c.gens, .slice c.sa c.start.length c.sc] -> Blk W' (w.heap.size + 1) 40 [.int .i64 q.kind, .int .i64 q.arg, .int .i64 q.value, .bool q.dflt, .slice q.A q.n q.c] -> Blk W' gx 87 [.int .i64 y.ticket, .slice y.CA y.chans.length y.cc, .slice y.WA y.waits.length y.wc, .slice y.DA y.done.length y.dc] -> (fun w' => w'.cell? ⟨w.heap.size, 0, none⟩ = some (.int .i64 c.kind) /\ w'.cell? ⟨w.heap.size, 1, none⟩ = some (.int .i64 c.threads) /\ w'.cell? ⟨w.heap.size, 2, none⟩ = some (.int .i64 c.chans) /\ w'.cell? ⟨w.heap.size, 3, none⟩ = some (.int .i64 c.cap) /\ w'.cell? ⟨w.heap.size, 4, none⟩ = some (.int .i64 c.nodes) /\ w'.cell? ⟨w.heap.size, 5, none⟩ = some (.int .i64 c.retire) /\ w'.cell? ⟨w.heap.size, 6, none⟩ = some (.int .i64 c.patience) /\ w'.cell? ⟨w.heap.size, 7, none⟩ = some (.int .i64 c.tags) /\ w'.cell? ⟨w.heap.size, 8, none⟩ = some (.int .i64 c.seqs) /\ w'.cell? ⟨w.heap.size, 9, none⟩ = some (.int .i64 c.gens) /\ w'.cell? ⟨w.heap.size, 10, none⟩ = some (.slice c.sa c.start.length c.sc) /\ w'.cell? ⟨w.heap.size + 1, 0, none⟩ = some (.int .i64 q.kind) /\ w'.cell? ⟨w.heap.size + 1, 1, none⟩ = some (.int .i64 q.arg) /\ w'.cell? ⟨w.heap.size + 1, 2, none⟩ = some (.int .i64 q.value) /\ w'.cell? ⟨w.heap.size + 1, 3, none⟩ = some (.bool q.dflt) /\ w'.cell? ⟨w.heap.size + 1, 4, none⟩ = some (.slice q.A q.n q.c) /\ w'.cell? ⟨gx, 0, none⟩ = some (.int .i64 y.ticket) /\ w'.cell? ⟨gx, 1, none⟩ = some (.slice y.CA y.chans.length y.cc) /\ w'.cell? ⟨gx, 2, none⟩ = some (.slice y.WA y.waits.length y.wc) /\ w'.cell? ⟨gx, 3, none⟩ = some (.slice y.DA y.done.length y.dc)) W') := Zd (fun W' hC hQ hX => ⟨hC.cell (i := 0) rfl, hC.cell (i := 1) rfl, hC.cell (i := 2) rfl, hC.cell (i := 3) rfl, hC.cell (i := 4) rfl, hC.cell (i := 5) rfl, hC.cell (i := 6) rfl, hC.cell (i := 7) rfl, hC.cell (i := 8) rfl, hC.cell (i := 9) rfl, hC.cell (i := 10) rfl, hQ.cell (i := 0) rfl, hQ.cell (i := 1) rfl, hQ.cell (i := 2) rfl, hQ.cell (i := 3) rfl, hQ.cell (i := 4) rfl, hX.cell (i := 0) rfl, hX.cell (i := 1) rfl, hX.cell (i := 2) rfl, hX.cell (i := 3) rfl⟩)
   refine AnyT.region (S := fun w' => w'.cell? ⟨w.heap.size, 0, none⟩ = some (.int .i64 c.kind) /\ w'.cell? ⟨w.heap.size, 1, none⟩ = some (.int .i64 c.threads) /\ w'.cell? ⟨w.heap.size, 2, none⟩ = some (.int .i64 c.chans) /\ w'.cell? ⟨w.heap.size, 3, none⟩ = some (.int .i64 c.cap) /\ w'.cell? ⟨w.heap.size, 4, none⟩ = some (.int .i64 c.nodes) /\ w'.cell? ⟨w.heap.size, 5, none⟩ = some (.int .i64 c.retire) /\ w'.cell? ⟨w.heap.size, 6, none⟩ = some (.int .i64 c.patience) /\ w'.cell? ⟨w.heap.size, 7, none⟩ = some (.int .i64 c.tags) /\ w'.cell? ⟨w.heap.size, 8, none⟩ = some (.int .i64 c.seqs) /\ w'.cell? ⟨w.heap.size, 9, none⟩ = some (.int .i64 c.gens) /\ w'.cell? ⟨w.heap.size, 10, none⟩ = some (.slice c.sa c.start.length c.sc) /\ w'.cell? ⟨w.heap.size + 1, 0, none⟩ = some (.int .i64 q.kind) /\ w'.cell? ⟨w.heap.size + 1, 1, none⟩ = some (.int .i64 q.arg) /\ w'.cell? ⟨w.heap.size + 1, 2, none⟩ = some (.int .i64 q.value) /\ w'.cell? ⟨w.heap.size + 1, 3, none⟩ = some (.bool q.dflt) /\ w'.cell? ⟨w.heap.size + 1, 4, none⟩ = some (.slice q.A q.n q.c) /\ w'.cell? ⟨gx, 0, none⟩ = some (.int .i64 y.ticket) /\ w'.cell? ⟨gx, 1, none⟩ = some (.slice y.CA y.chans.length y.cc) /\ w'.cell? ⟨gx, 2, none⟩ = some (.slice y.WA y.waits.length y.wc) /\ w'.cell? ⟨gx, 3, none⟩ = some (.slice y.DA y.done.length y.dc)) (k := 8) (by kernel_rfl) (HSS.out _ (Blk.drew HC3.out) (Blk.drew HQ3.out) (Blk.drew HX3.out)) (fun hHeld => ?_)
   refine AnyT.tk 0 (.agg #[.int .i64 c.kind, .int .i64 c.threads, .int .i64 c.chans, .int .i64 c.cap, .int .i64 c.nodes, .int .i64 c.retire, .int .i64 c.patience, .int .i64 c.tags, .int .i64 c.seqs, .int .i64 c.gens, .slice c.sa c.start.length c.sc]) rfl (Or.inl ⟨by rfl, fun w hSw => by obtain ⟨f0, f1, f2, f3, f4, f5, f6, f7, f8, f9, f10, g0, g1, g2, g3, g4, k0, k1, k2, k3⟩ := hSw; go_simp⟩) hHeld ?_
   refine AnyT.tk 1 (.agg #[.int .i64 c.kind, .int .i64 c.threads, .int .i64 c.chans, .int .i64 c.cap, .int .i64 c.nodes, .int .i64 c.retire, .int .i64 c.patience, .int .i64 c.tags, .int .i64 c.seqs, .int .i64 c.gens, .slice c.sa c.start.length c.sc]) rfl (Or.inl ⟨by rfl, fun w hSw => by obtain ⟨f0, f1, f2, f3, f4, f5, f6, f7, f8, f9, f10, g0, g1, g2, g3, g4, k0, k1, k2, k3⟩ := hSw; go_simp⟩) hHeld ?_
   refine AnyT.tk 2 (.agg #[.int .i64 y.ticket, .slice y.CA y.chans.length y.cc, .slice y.WA y.waits.length y.wc, .slice y.DA y.done.length y.dc]) rfl (Or.inl ⟨by rfl, fun w hSw => by obtain ⟨f0, f1, f2, f3, f4, f5, f6, f7, f8, f9, f10, g0, g1, g2, g3, g4, k0, k1, k2, k3⟩ := hSw; go_simp⟩) hHeld ?_
   refine AnyT.tkp 3 (.int .i64 t) rfl hHeld ?_
   refine AnyT.tkp 4 (.int .i64 seq) rfl hHeld ?_
   refine AnyT.tk 5 (.agg #[.int .i64 q.kind, .int .i64 q.arg, .int .i64 q.value, .bool q.dflt, .slice q.A q.n q.c]) rfl (Or.inl ⟨by rfl, fun w hSw => by obtain ⟨f0, f1, f2, f3, f4, f5, f6, f7, f8, f9, f10, g0, g1, g2, g3, g4, k0, k1, k2, k3⟩ := hSw; go_simp⟩) hHeld ?_
   try simp only [Nrq, Nrs]
   have HCD := Zd (Blk.drew HC3.out)
   have HQD := Zd (Blk.drew HQ3.out)
   have HXD := Zd (Blk.drew HX3.out)
   have HBD := Zd HB3.out.drew
   have HYD := Zd (HYO3.out.below (Below.refl V.heap.size V).drew)
   clear HC3 HQ3 HX3 HB3 HYO3
   generalize V.drew = VD at *
   have hpre : HalPre y := fit_pre HFF.out.1 (by rw [HYP.out]; exact HFF.out.2.1)
   have HAX := Zd (HAP.out VD y (HYD.out.at_ hpre.few) hpre HBD.out)
   rw [HYP.out] at HAX
   unfold halV at HAX
   clear hpre HAP HYD
   refine AnyT.next (i := 6) (by kernel_rfl) rfl (fun K hK => ?_)
   clear hHeld
   rw [if_pos (by rfl)]
   try simp only [Nrq]
   go_simp
   refine (HAX.out).mono ?_
   rintro er w4 ⟨z, rfl, hzp, hzo, hb4⟩
   have HC4 := Zd (HCD.out.below hb4 HCD.out.lt)
   have HQ4 := Zd (HQD.out.below hb4 HQD.out.lt)
   have HX4 := Zd (HXD.out.below hb4 HXD.out.lt)
   have HB4 := Zd (btr HBD.out hb4)
   have HZP := Zd hzp
   have hfz : FitH c z.p := by rw [hzp]; exact HFF.out.2.2
   have HPX := Zd (HPT.out w4 z HB4.out (hzo.at_ (fit_pre HFF.out.1 hfz).few))
   clear hzp hzo hb4 hfz HPT HCD HQD HXD HBD
   unfold halV
   unfold halV at HPX
   go_wp2_with fail
   refine hK.out _ _ (HSS.out _ HC4.out HQ4.out HX4.out) (fun hHeld => ?_)
   clear hK K
   try simp only [Nrq, Nrs]
   refine AnyT.next (i := 7) (by kernel_rfl) rfl (fun K hK => ?_)
   clear hHeld
   rw [if_pos (by rfl)]
   try simp only [Nrq]
   go_simp
   refine (HPX.out).mono ?_
   rintro er w5 ⟨A5, d5, rfl, ho5, hb5⟩
   have HC5 := Zd (HC4.out.below hb5 HC4.out.lt)
   have HQ5 := Zd (HQ4.out.below hb5 HQ4.out.lt)
   have HX5 := Zd (HX4.out.below hb5 HX4.out.lt)
   have HO5 := Zd (own_lower ho5 HB4.out.size)
   have HB5 := Zd (btr HB4.out hb5)
   clear ho5 hb5 HC4 HQ4 HX4
   go_wp2_with fail
   refine hK.out _ _ (HSS.out _ HC5.out HQ5.out HX5.out) (fun hHeld => ?_)
   clear hK K
   try simp only [Nrq, Nrs]
   refine AnyT.past (i := 8) (by kernel_rfl) (by kernel_rfl) rfl (fun K hK => ?_)
   rw [if_pos (by rfl)]
   try simp only [Nrq]
   go_simp
   try go_wp2_with fail
   refine hK.out _ _ ?_
   clear hK K
   try simp only [Nrq, Nrs]
   refine AnyT.done (by kernel_rfl) ?_ _
   clear hHeld
   go_wp2_with fail
   go_ret
   rw [HVV.out, <- HZP.out]
   exact ⟨A5, d5, rfl, HO5.out, HB5.out⟩
theorem objOk_hall (c : Cfg) (hk : c.kind = 3) : ObjOk c where
 start := fun w hc => by
  cases h : chkB c
  . exact oStart_no c w hc h
  . exact oStart_hall c w hc h hk
 apply := fun A c0 L t seq q l w hc hR hL hc0 hbig hq hql => oApplyH_any c A c0 L t seq q l w hk hc hR hL hc0 hbig hq hql
 done := fun A c0 L t w hc hR hL h0 ht => oDone_any c A c0 L t w hc hR hL h0 ht
 big := fun L t seq q h => applyO_bigH hk L t seq q h
 big0 := startO_bigH hk
theorem objOk_any (c : Cfg) (hc : chkB c = true) : ObjOk c := by
 have h0 : c.kind = 1 ∨ c.kind = 2 ∨ c.kind = 3 := by
  unfold chkB at hc
  simp only [Bool.and_eq_true] at hc
  have h1 := hc.2
  unfold ownB at h1
  by_cases h : c.kind = 1
  . exact .inl h
  . by_cases h2 : c.kind = 2
    . exact .inr (.inl h2)
    . by_cases h3 : c.kind = 3
      . exact .inr (.inr h3)
      . rw [if_neg (by simp [h, h2]), if_neg (by simp [h3])] at h1
        cases h1
 rcases h0 with h | h | h
 . exact objOk_fifo c h
 . exact objOk_lifo c h
 . exact objOk_hall c h
end Go.Proofs.YtieglgahfeecbaaGreatDoor
