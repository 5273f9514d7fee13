/- object: of a queue, a stack: the words at first; what a call came to: walked. -/
import Derived.Laws.Bits64b
import Derived.Test.YtieglgahfeecbaaGreatDoorP1
import Derived.Test.YtieglgahfeecbaaGreatDoorP4
import Derived.Test.YtieglgahfeecbaaGreatDoorP6
set_option maxHeartbeats 64000000
set_option maxRecDepth 100000
namespace Go.Proofs.YtieglgahfeecbaaGreatDoor
open Go.RowKit Go.Sort
attribute [local go_sem ↓] Go.wp_at_zero Go.wp_at_succ
theorem CloneO_info : (Tryz.prog.info? 63).map (fun i => (i.zero, i.size, i.bytes)) = some (some (oprV Opr.none), 8, 72) := by kernel_rfl
theorem CloneO_any (A : Option Addr) (n c : Nat) (xs : List Value) (w : World) (hn : n * 72 <= 140737488355328) (hx : xs.length = n * 8) (h1 : ∀ u ∈ xs, u.oneCell' = true) (hR : Rd w A xs) :
  Calls Tryz.prog 101 #[.slice A n c] w (RetOwn 63 8 n xs w) := by
 have HR := Zd hR
 have HX := Zd hx
 have H1 := Zd h1
 clear hR hx h1
 rcases A with _ | ad
 . have hxs : xs = [] := by
    rcases HR.out with h | ⟨b, o, h, _⟩
    . exact h
    . cases h
   obtain rfl : n = 0 := by have := HX.out; rw [hxs] at this; simp at this; omega
   have hnil := fun w => Lib.run_eql_slice_nil (P := Tryz.prog) w 55 63 none 0 c 0 0 Tryz.underlying55
   go_enter Tryz.func101, Tryz.ntmps101
   go_wp2
   go_ret
   exact ⟨none, 0, rfl, by rw [hxs]; exact own_nil _ _ _ _, Below.refl _ _⟩
 . have hnil := fun w => Lib.run_eql_slice_nil (P := Tryz.prog) w 55 63 (some ad) n c 0 0 Tryz.underlying55
   obtain ⟨i0, hi, hz0, hz1, hz2⟩ := info_parts CloneO_info
   have hnm : n <= maxLen := by unfold maxLen; omega
   have HI := Zd (And.intro hi (And.intro hz0 (And.intro hz1 (And.intro hz2 hnm))))
   clear hi hz0 hz1 hz2 hnm
   go_enter Tryz.func101, Tryz.ntmps101
   go_wp2_with (at_builtin; refine wpList_append_own _ rfl (.tmp 5) (.tmp 6) 55 rfl w.heap.size 63 i0 (oprV Opr.none) 8 72 Tryz.underlying55 HI.out.1 HI.out.2.1 HI.out.2.2.1 HI.out.2.2.2.1 rfl (by decide) (.slice (some ⟨w.heap.size, 0, none⟩) 0 0) 0 [] rfl (own_empty w 63 8) ad n c xs rfl HX.out (rd_add (HR.out.alloc _)) H1.out (by have := HI.out.2.2.2.2; omega) (by omega) (by simp) ?_; intro v' w1 hown1 hg1 hnl1)
   go_ret
   have hown2 : w1.ownsRow w.heap.size 63 8 v' n xs := by simpa using hown1
   have hb := ((Below.refl _ w).alloc (Nat.le_refl _) _).trans ((own_grown (own_empty w 63 8) (by simp) hg1))
   rcases hown2.2 with ⟨rfl, h0⟩ | ⟨g, cap, cur, rfl, _⟩
   . subst h0
     exact ⟨none, 0, rfl, hown2, hb⟩
   . exact ⟨_, _, rfl, hown2, hb⟩
structure Str where
 (at_ : Int)
 (RA : Option Addr)
 (rn rc : Nat)
 (LA : Option Addr)
 (ln lc : Nat)
def Str.none : Str := ⟨0, .none, 0, 0, .none, 0, 0⟩
def Str.cells (s : Str) : List Value := [.int .i64 s.at_, .slice s.RA s.rn s.rc, .slice s.LA s.ln s.lc]
abbrev strV (s : Str) : Value := .agg #[.int .i64 s.at_, .slice s.RA s.rn s.rc, .slice s.LA s.ln s.lc]
instance : Cellful Str where
 cells := Str.cells
 s := 3
 dflt := Str.none
 len := fun _ => rfl
 one := fun a u hu => by
  simp only [Str.cells, List.mem_cons, List.not_mem_nil, or_false] at hu
  rcases hu with rfl | rfl | rfl <;> rfl
theorem CloneSt_info : (Tryz.prog.info? 57).map (fun i => (i.zero, i.size, i.bytes)) = some (some (strV Str.none), 3, 56) := by kernel_rfl
theorem str_load {w : World} {g : Nat} {cs : List Value} {x : Str} (h : Blk w g 57 cs) (hc : cs = x.cells) : (loadVar 57 ⟨g, 0, none⟩).run Tryz.prog w = .ok (strV x) w := by
 subst hc
 exact run_loadVar_row (P := Tryz.prog) w g 57 57 _ (0, 0) _ h Tryz.underlying57 rfl (by kernel_rfl)
def RetWith (s : Str) (L : List Opr) (w : World) (e : Ending) (w' : World) : Prop :=
 ∃ A c, e = .returned (strV ⟨s.at_, s.RA, s.rn, s.rc, A, s.ln, c⟩) /\ w'.ownsRow w.heap.size 63 8 (.slice A s.ln c) s.ln (rows L) /\ Below w.heap.size w w'
theorem hWith_any (s : Str) (L : List Opr) (t : Nat) (x : Opr) (w : World) (hl : L.length = s.ln) (hs : s.ln <= 4096) (ht : t < s.ln) (hR : Rd w s.LA (rows L)) :
  Calls Tryz.prog 69 #[strV s, .int .i64 t, oprV x] w (RetWith s (L.set t x) w) := by
 obtain ⟨b0, b1, b2, hb3⟩ := box3 w 57 63 57 s.cells x.cells [.int .i64 0, .slice none 0 0, .slice none 0 0]
 have HCO := Zd (fun W (hb : Below w.heap.size w W) => CloneO_any s.LA s.ln s.lc (rows L) W (by omega) (by rw [rows_length, hl]; rfl) (rows_one _) (hR.below hb))
 have HY0 := Zd b0
 have HY1 := Zd b1
 have HY2 := Zd b2
 have HBX := Zd hb3
 have HLN := Zd hl
 clear b0 b1 b2 hb3 hR hl
 obtain ⟨at_, RA, rn, rc, LA, ln, lc⟩ := s
 obtain ⟨⟨xk, xa, xv, xd, xA, xn, xc⟩, xs, xo, xp⟩ := x
 simp only [Str.cells, Opr.cells] at HY0 HY1 HY2 HBX HLN HCO hs ht
 unfold strV oprV
 simp only
 have t0 : (0 : Int) <= (t : Int) := by omega
 have t1 : (t : Int) < (ln : Int) := by omega
 go_enter Tryz.func69, Tryz.ntmps69
 go_upto_region 1 with fail
 generalize (((w.alloc (.cells #[.int .i64 at_, .slice RA rn rc, .slice LA ln lc] 57)).alloc (.cells #[.int .i64 xk, .int .i64 xa, .int .i64 xv, .bool xd, .slice xA xn xc, .int .i64 xs, .bool xo, .bool xp] 63)).alloc (.cells #[.int .i64 0, .slice none 0 0, .slice none 0 0] 57)) = W0 at *
 have y2 := HY0.out.cell (i := 2) rfl
 go_wp2_with (refine (HCO.out _ HBX.out).mono ?_
              rintro er w1 ⟨A1, c1, rfl, how1, hb1⟩
              have HX1 := Zd (HY0.out.below hb1 HY0.out.lt)
              have HO1 := Zd (HY1.out.below hb1 HY1.out.lt)
              have HZ1 := Zd (HY2.out.below hb1 HY2.out.lt)
              have HB1 := Zd hb1
              have HW1 := Zd how1
              clear y2
              have x0 := HX1.out.cell (i := 0) rfl
              have x1 := HX1.out.cell (i := 1) rfl
              have x2 := HX1.out.cell (i := 2) rfl
              have zx2 := HX1.out.frozen 2
              have o0 := HO1.out.cell (i := 0) rfl
              have o1 := HO1.out.cell (i := 1) rfl
              have o2 := HO1.out.cell (i := 2) rfl
              have o3 := HO1.out.cell (i := 3) rfl
              have o4 := HO1.out.cell (i := 4) rfl
              have o5 := HO1.out.cell (i := 5) rfl
              have o6 := HO1.out.cell (i := 6) rfl
              have o7 := HO1.out.cell (i := 7) rfl
              have s0 := HZ1.out.cell (i := 0) rfl
              have zs0 := HZ1.out.frozen 0
              have s1 := HZ1.out.cell (i := 1) rfl
              have zs1 := HZ1.out.frozen 1
              have s2 := HZ1.out.cell (i := 2) rfl
              have zs2 := HZ1.out.frozen 2
              obtain ⟨g, hA, hg1, hg2⟩ := own_some how1 (by omega)
              subst hA
              obtain ⟨r0, r1, r2, r3, r4, r5, r6, r7⟩ := opr_cells (k := t) (x := L.getD t Opr.none) (own_cellAt how1) (by rw [HLN.out]; exact ht) rfl
              simp only [Nat.zero_add] at r0 r1 r2 r3 r4 r5 r6 r7
              have zr := own_free how1
              have n0 : g ≠ w.heap.size := by have := HY0.out.lt; omega
              have n0' := n0.symm
              have n1 : g ≠ w.heap.size + 1 := by have := HY1.out.lt; omega
              have n1' := n1.symm
              have n2 : g ≠ w.heap.size + 1 + 1 := by have := HY2.out.lt; omega
              have n2' := n2.symm
              clear how1 hb1)
 have hb0 : w.heap.size < W0.heap.size := HY0.out.lt
 have HZ3 := Zd ((HZ1.out.other (g' := w.heap.size) (by omega) 2 (.slice (some ⟨g, 0, none⟩) ln c1)).sets (g := g) n2' (t * 8) (Opr.cells ⟨⟨xk, xa, xv, xd, xA, xn, xc⟩, xs, xo, xp⟩))
 have HW3 := Zd (own_whole (own_low HW1.out hb0 2 (.slice (some ⟨g, 0, none⟩) ln c1)) HLN.out ht ⟨⟨xk, xa, xv, xd, xA, xn, xc⟩, xs, xo, xp⟩)
 have HB3 := Zd (below_setsAt (g := g) (by omega) (Opr.cells ⟨⟨xk, xa, xv, xd, xA, xn, xc⟩, xs, xo, xp⟩) _ (t * 8) ((HBX.out.trans (HB1.out.mono HBX.out.size)).setCell (p := ⟨w.heap.size, 2, none⟩) (Nat.le_refl _) (.slice (some ⟨g, 0, none⟩) ln c1)))
 refine bodyPost_ret (v := strV ⟨at_, RA, rn, rc, some ⟨g, 0, none⟩, ln, c1⟩) (ret_cell (g := w.heap.size + 1 + 1) rfl rfl (str_load (x := ⟨at_, RA, rn, rc, some ⟨g, 0, none⟩, ln, c1⟩) (put3 HZ3.out) rfl)) rfl ?_
 exact ⟨some ⟨g, 0, none⟩, c1, rfl, own_lower (own_put3 HW3.out HZ3.out (by decide)) (by omega), below3 HB3.out (by omega)⟩
theorem rows_rep {α : Type} [Cellful α] (x : α) (n j : Nat) (h : j < n * Cellful.s α) : (rows (List.replicate n x))[j]? = (Cellful.cells x)[j % Cellful.s α]? := by
 induction n generalizing j with
 | zero => simp at h
 | succ n ih =>
   rw [List.replicate_succ, rows_cons]
   have hl := Cellful.len x
   by_cases e : j < Cellful.s α
   . rw [List.getElem?_append_left (by omega), Nat.mod_eq_of_lt e]
   . rw [List.getElem?_append_right (by omega), hl, ih (j - Cellful.s α) (by rw [Nat.succ_mul] at h; omega)]
     rw [Nat.mod_eq_sub_mod (a := j) (by omega)]
theorem rows_made {α : Type} [Cellful α] (x : α) (n : Nat) (z : Array Value) (hz : z.toList = Cellful.cells x) (hs : 0 < Cellful.s α) : madeCells z (n * Cellful.s α) = (rows (List.replicate n x)).toArray := by
 have hl := Cellful.len x
 have hzs : z.size = Cellful.s α := by rw [<- Array.length_toList, hz, hl]
 apply Array.ext
 . simp [size_madeCells, rows_length]
 . intro j h1 h2
   rw [size_madeCells] at h1
   have e := rows_rep x n j h1
   have hm : j % Cellful.s α < z.size := by rw [hzs]; exact Nat.mod_lt _ hs
   have e2 : (Cellful.cells x)[j % Cellful.s α]? = some z[j % Cellful.s α] := by
    rw [<- hz, Array.getElem?_toList, Array.getElem?_eq_getElem hm]
   rw [e2] at e
   have e3 : (rows (List.replicate n x)).toArray[j] = z[j % Cellful.s α] := by
    have h3 : j < (rows (List.replicate n x)).length := by simpa using h2
    rw [List.getElem?_eq_getElem h3] at e
    exact Option.some.inj e
   rw [e3]
   unfold madeCells
   simp only [Array.getElem_map, Array.getElem_range, hzs]
   rw [getElem!_pos z _ hm]
theorem make_open (n : Nat) (hn : n <= 1048576) (w : World) :
  (Instr.makeSlice 55 (.int .i64 (n : Int)) (.int .i64 (n : Int))).run Tryz.prog w = .ok (.slice (some ⟨w.heap.size, 0, none⟩) n n) (w.alloc (.cells (rows (List.replicate n Opr.none)).toArray 63)) := by
 obtain ⟨i, hi, hz, hs, hb⟩ := info_parts CloneO_info
 have hr := run_make (P := Tryz.prog) w 55 63 i (oprV Opr.none) Tryz.underlying55 hi hz .i64 .i64 n n (by omega) (by omega) (by rw [hb]; omega) (by omega)
 simp only [Int.toNat_natCast] at hr
 rw [hr, hs]
 have := rows_made Opr.none n (oprV Opr.none).cells rfl (by decide)
 rw [<- this]
 rfl
structure NtsIn (w : World) (NA : Option Addr) (NS : List Nte) (PS : List NtP) : Prop where
 rd : Rd w NA (rows NS)
 len : PS.length = NS.length
 few : NS.length <= 4096
 is_ : ∀ k, k < NS.length -> ∃ cs, ReqAt w (NS.getD k Nte.none).q cs /\ PS.getD k NtP.none = (NS.getD k Nte.none).p cs
theorem NtsIn.below {w w' : World} {NA : Option Addr} {NS : List Nte} {PS : List NtP} (h : NtsIn w NA NS PS) (hb : Below w.heap.size w w') : NtsIn w' NA NS PS :=
 ⟨h.rd.below hb, h.len, h.few, fun k hk => by
  obtain ⟨cs, h1, h2⟩ := h.is_ k hk
  exact ⟨cs, h1.below hb, h2⟩⟩
theorem own_drw {w : World} {base : Nat} {e : TypeId} {s n : Nat} {v : Value} {xs : List Value} (h : w.ownsRow base e s v n xs) : w.drew.ownsRow base e s v n xs := h
theorem set_same {α : Type} (l : List α) (d : α) {t : Nat} (h : t < l.length) : l.set t (l.getD t d) = l := by
 apply List.ext_getElem (by simp)
 intro i h1 h2
 simp only [List.getElem_set]
 split
 . rename_i e; subst e; simp [List.getD, h]
 . rfl
theorem hCheck_no (c : Cfg) (v : Value) (w : World) (hc : CfgIn w c) (h : chkB c = false) :
  Calls Tryz.prog 9 #[cfgV c, v] w fun e w' => e = .returned (.int .i64 1) /\ Below w.heap.size w w' := by
 have HC := Zd hc
 have HCK := Zd h
 clear hc h
 unfold cfgV
 go_enter Tryz.func9, Tryz.ntmps9
 go_wp2_with (go_at_call 20; refine (Check_no c _ (HC.out.alloc _) HCK.out).mono ?_; rintro e w1 ⟨rfl, hb1⟩; have HB1 := Zd (((Below.refl w.heap.size w).alloc (Nat.le_refl _) _).trans (hb1.mono (by simp))); clear hb1)
 go_ret
 exact ⟨rfl, HB1.out⟩
theorem hCheck_yes (c : Cfg) (NA : Option Addr) (nc : Nat) (NS : List Nte) (PS : List NtP) (w : World) (hc : CfgIn w c) (h : chkB c = true) (hN : NtsIn w NA NS PS) :
  Calls Tryz.prog 9 #[cfgV c, .slice NA NS.length nc] w fun e w' => e = .returned (.int .i64 (checkS c PS)) /\ Below w.heap.size w w' := by
 have HC := Zd hc
 have HCH := Zd h
 have HN := Zd hN
 have hth := chk_kind h
 obtain ⟨t, ht⟩ : ∃ t : Nat, c.threads = t := ⟨_, (Int.toNat_of_nonneg (by omega)).symm⟩
 have t1 : 1 <= t := by omega
 have t2 : t <= 64 := by omega
 have hmk := fun W => make_open t (by omega) W
 have HTT := Zd ht
 have hfew := hN.few
 have hplen := hN.len
 generalize hnn : NS.length = n at *
 have HNN := Zd hnn
 clear hnn hc h hth hN ht
 go_enter Tryz.func9, Tryz.ntmps9
 unfold cfgV
 go_upto_region 2 with (first
  | (go_at_call 20
     refine (Check_ok c _ (HC.out.alloc _) HCH.out).mono ?_
     rintro e w1 ⟨rfl, hb1⟩
     obtain ⟨c0, c1, c2, c3, c4, c5, c6, c7, c8, c9, c10⟩ := ((BoxC.new w c).below hb1).all
     rw [HTT.out] at c1
     have HB1 := Zd (((Below.refl _ _).alloc (Nat.le_refl _) _).trans (hb1.mono (alloc_size _ _)))
     have HLT1 := Zd (show w.heap.size < w1.heap.size by have := hb1.size; simp at this; omega)
     clear hb1))
 have HMW := Zd (blk_new (w := w1) (g := w1.heap.size) (cs := rows (List.replicate t Opr.none)) (t := 63) rfl)
 clear hmk
 go_loopg [5, 18] n (fun gg v i wr => ∃ (k : Nat) (K : List KnP) (L : List Opr), k <= n /\ gg = n - k /\ i = .int .i64 k /\ v = .int .i64 (callsK PS k) /\ knowK t PS k = some K /\ KnL L K /\ L.length = t /\
   wr.ownsRow w1.heap.size 63 8 (.slice (some ⟨w1.heap.size, 0, none⟩) t t) t (rows L) /\ Below w1.heap.size w1 wr)
 case atStart =>
  exact ⟨0, _, _, Nat.zero_le _, rfl, rfl, rfl, rfl, knL_start t, by simp, own_blk1 HMW.out (Nat.le_refl _) (by rw [rows_length, List.length_replicate]; rfl) (by unfold maxLen; omega), (Below.refl _ _).alloc (Nat.le_refl _) _⟩
 case round =>
  obtain ⟨k, K, L, hk, hg, rfl, rfl, hkn, hkl, hll, hrow, hbr⟩ := hrel
  have HG := Zd hg
  have HKN := Zd hkn
  have HKL := Zd hkl
  have HLL := Zd hll
  have HROW := Zd hrow
  have HBR := Zd hbr
  have HLTR := Zd (own_lt hrow)
  clear hg hkn hkl hll hrow hbr HMW
  have hcl := callsK_le (ns := PS) k
  by_cases hlt : k < n
  . obtain ⟨cs, hcs, hps⟩ := HN.out.is_ k (by rw [HNN.out]; exact hlt)
    obtain ⟨bN, oN, hNA, hbN, hcN⟩ := HN.out.rd.at_ (by rw [rows_length, HNN.out]; exact Nat.mul_pos (by omega) (by decide))
    have hbw : Below w.heap.size w wr := HB1.out.trans (HBR.out.mono HB1.out.size)
    have HRQ := Zd (hcs.below hbw)
    have HPS := Zd hps
    have hxc := note_cells (k := k) (x := NS.getD k Nte.none) (fun j v hj => by rw [hbw.cell (p := ⟨bN, oN + j, none⟩) hbN]; exact hcN j v hj) (by rw [HNN.out]; exact hlt) rfl
    generalize hx : NS.getD k Nte.none = x at *
    have HBAD : Hid (noteOk K (x.p cs) = false -> checkS c PS = 3) := Zd (fun h => checkS_bad HCH.out (by rw [hplen]; exact hlt) (by rw [HTT.out, Int.toNat_natCast]; exact HKN.out) (by rw [hps]; exact h))
    have HTH := Zd ((BoxC.new w c))
    have cth : wr.cell? ⟨w.heap.size, 1, none⟩ = some (.int .i64 t) := by rw [HBR.out.cell (p := ⟨w.heap.size, 1, none⟩) HLT1.out]; exact c1
    have HBW := Zd hbw
    clear hcs hps hcN hbw HTH hx
    subst hNA
    have q0 : (0 : Int) <= (k : Int) := by omega
    have q1 : (k : Int) < (n : Int) := by omega
    obtain ⟨e0, e1, e2, e3, e4, e5, e6, e7, e8, e9, e10, e11, e12⟩ := hxc
    have HBOX : Hid (Blk (wr.alloc (nbox x)) wr.heap.size 44 x.cells) := Zd (Blk.new wr 44 x.cells)
    have HBA := Zd ((Below.refl wr.heap.size wr).alloc (Nat.le_refl _) (nbox x))
    have hlr : w.heap.size < wr.heap.size := by have := HLT1.out; have := HBR.out.size; omega
    clear c0 c1 c2 c3 c4 c5 c6 c7 c8 c9 c10
    go_upto_region 8 with (fail)
    have b1 := HBOX.out.cell (i := 1) rfl
    have b2 := HBOX.out.cell (i := 2) rfl
    have cth2 : (wr.alloc (nbox x)).cell? ⟨w.heap.size, 1, none⟩ = some (.int .i64 t) := by rw [HBA.out.cell (p := ⟨w.heap.size, 1, none⟩) hlr]; exact cth
    have HBE := Zd (HBW.out.trans (HBA.out.mono HBW.out.size))
    have hlo : wr.heap.size < (wr.alloc (nbox x)).heap.size := by simp
    clear e0 e1 e2 e3 e4 e5 e6 e7 e8 e9 e10 e11 e12 cth
    generalize (wr.alloc (nbox x)) = W1 at *
    by_cases a1 : x.thread < 0
    . have d1 : decide (x.thread < 0) = true := decide_eq_true a1
      have HNO : Hid (noteOk K (x.p cs) = false) := Zd (by
       unfold noteOk; rw [decide_eq_false (by show ¬ inL K.length x.thread; unfold inL; omega)]; rfl)
      clear a1
      go_quiet (fail)
      go_wp2_with fail
      go_ret
      exact ⟨ret_int (HBAD.out HNO.out).symm, Below.drewN' HBE.out _⟩
    have d1 : decide (x.thread < 0) = false := decide_eq_false a1
    by_cases a2 : x.thread ≥ (t : Int)
    . have d2 : decide ((t : Int) <= x.thread) = true := decide_eq_true a2
      have HNO : Hid (noteOk K (x.p cs) = false) := Zd (by
       unfold noteOk; rw [decide_eq_false (by show ¬ inL K.length x.thread; have := HKL.out.len; have := HLL.out; unfold inL; omega)]; rfl)
      clear a1 a2
      go_quiet (fail)
      go_wp2_with fail
      go_ret
      exact ⟨ret_int (HBAD.out HNO.out).symm, Below.drewN' HBE.out _⟩
    have d2 : decide ((t : Int) <= x.thread) = false := decide_eq_false a2
    by_cases a3 : x.seq < 0
    . have d3 : decide (x.seq < 0) = true := decide_eq_true a3
      have HNO : Hid (noteOk K (x.p cs) = false) := Zd (by
       unfold noteOk; rw [show inB (x.p cs).seq 0 1048575 = false by show inB x.seq 0 1048575 = false; unfold inB; rw [decide_eq_false (by omega)]; rfl]; simp)
      clear a1 a2 a3
      go_quiet (fail)
      go_wp2_with fail
      go_ret
      exact ⟨ret_int (HBAD.out HNO.out).symm, Below.drewN' HBE.out _⟩
    have d3 : decide (x.seq < 0) = false := decide_eq_false a3
    by_cases a4 : 1048575 < x.seq
    . have d4 : decide (1048575 < x.seq) = true := decide_eq_true a4
      have HNO : Hid (noteOk K (x.p cs) = false) := Zd (by
       unfold noteOk; rw [show inB (x.p cs).seq 0 1048575 = false by show inB x.seq 0 1048575 = false; unfold inB; simp; omega]; simp)
      clear a1 a2 a3 a4
      go_quiet (fail)
      go_wp2_with fail
      go_ret
      exact ⟨ret_int (HBAD.out HNO.out).symm, Below.drewN' HBE.out _⟩
    have d4 : decide (1048575 < x.seq) = false := decide_eq_false a4
    obtain ⟨u, hu⟩ : ∃ u : Nat, x.thread = u := ⟨_, (Int.toNat_of_nonneg (by omega)).symm⟩
    have hul : u < t := by omega
    have HFO := Zd (fun W (hb : Below wr.heap.size wr W) => hFollows_any (L.getD u Opr.none) x cs W (HRQ.out.below hb))
    unfold oprV nteV at HFO
    simp only [hu] at HFO
    have HFE : Hid (folB (L.getD u Opr.none) x (fitsQ (x.q.p cs)) = followsB (K.getD u KnP.none) (x.p cs)) := Zd ((HKL.out.is_ u (by rw [HLL.out]; exact hul)).1.follows x cs)
    have HOKE : Hid (noteOk K (x.p cs) = followsB (K.getD u KnP.none) (x.p cs)) := Zd (by
     unfold noteOk
     rw [decide_eq_true (show inL K.length (x.p cs).thread by show inL K.length x.thread; have := HKL.out.len; have := HLL.out; unfold inL; omega), show inB (x.p cs).seq 0 1048575 = true by show inB x.seq 0 1048575 = true; unfold inB; simp; omega, show (x.p cs).thread.toNat = u by show x.thread.toNat = u; omega]
     rfl)
    have HNX : Hid (noteOk K (x.p cs) = true -> knowK t PS (k + 1) = some (nextK K (x.p cs)) /\ KnL (L.set u (stepO (L.getD u Opr.none) x)) (nextK K (x.p cs))) := Zd (fun h => by
     have h1 := knowK_next HKN.out (by rw [HPS.out]; exact h)
     rw [HPS.out] at h1
     have h2 := HKL.out.next h
     rw [show x.thread.toNat = u by omega] at h2
     exact ⟨h1, h2⟩)
    have HCN : Hid (callsK PS (k + 1) = callsK PS k + if x.kind = 1 then 1 else 0) := Zd (by rw [callsK, HPS.out]; rfl)
    rw [HFE.out] at HFO
    rw [hu] at b1 d1 d2
    have d5 : decide (t <= u) = false := decide_eq_false (by omega)
    have HROW1 := Zd (own_below HROW.out HBA.out)
    obtain ⟨r0, r1, r2, r3, r4, r5, r6, r7⟩ := opr_cells (k := u) (x := L.getD u Opr.none) (own_cellAt (own_below HROW.out HBA.out)) (by rw [HLL.out]; exact hul) rfl
    simp only [Nat.zero_add] at r0 r1 r2 r3 r4 r5 r6 r7
    generalize hFB : followsB (K.getD u KnP.none) (x.p cs) = FB at *
    clear hFB HFE
    have u0 : (0 : Int) <= (u : Int) := by omega
    have u1 : (u : Int) < (t : Int) := by omega
    have b0 := HBOX.out.cell (i := 0) rfl
    have b3 := HBOX.out.cell (i := 3) rfl
    have b4 := HBOX.out.cell (i := 4) rfl
    have b5 := HBOX.out.cell (i := 5) rfl
    have b6 := HBOX.out.cell (i := 6) rfl
    have b7 := HBOX.out.cell (i := 7) rfl
    have b8 := HBOX.out.cell (i := 8) rfl
    have b9 := HBOX.out.cell (i := 9) rfl
    have b10 := HBOX.out.cell (i := 10) rfl
    have b11 := HBOX.out.cell (i := 11) rfl
    have b12 := HBOX.out.cell (i := 12) rfl
    have hu2 := hu
    have hu2 := hu
    have hu2 := hu
    have hu2 := hu
    have hu2 := hu
    have hu2 := hu
    have hu2 := hu
    clear a1 a2 a3 a4 hu
    have hlw : w.heap.size < W1.heap.size := by omega
    have hll1 : w1.heap.size < W1.heap.size := by have := HLTR.out; omega
    cases FB
    . go_region_held3 (fun w' => w'.cell? ⟨wr.heap.size, 0, none⟩ = some (.int .i64 x.kind) /\ w'.cell? ⟨wr.heap.size, 1, none⟩ = some (.int .i64 (u : Int)) /\ w'.cell? ⟨wr.heap.size, 2, none⟩ = some (.int .i64 x.seq) /\ w'.cell? ⟨wr.heap.size, 3, none⟩ = some (.int .i64 x.time) /\ w'.cell? ⟨wr.heap.size, 4, none⟩ = some (.int .i64 x.rkind) /\ w'.cell? ⟨wr.heap.size, 5, none⟩ = some (.int .i64 x.rarg) /\ w'.cell? ⟨wr.heap.size, 6, none⟩ = some (.int .i64 x.rvalue) /\ w'.cell? ⟨wr.heap.size, 7, none⟩ = some (.bool x.rdef) /\ w'.cell? ⟨wr.heap.size, 8, none⟩ = some (.slice x.ca x.cl x.cc) /\ w'.cell? ⟨wr.heap.size, 9, none⟩ = some (.int .i64 x.qseq) /\ w'.cell? ⟨wr.heap.size, 10, none⟩ = some (.int .i64 x.qcase) /\ w'.cell? ⟨wr.heap.size, 11, none⟩ = some (.int .i64 x.qcode) /\ w'.cell? ⟨wr.heap.size, 12, none⟩ = some (.int .i64 x.qvalue) /\ w'.cell? ⟨w.heap.size, 1, none⟩ = some (.int .i64 (t : Int)) /\ w'.cell? ⟨w1.heap.size, u * 8, none⟩ = some (.int .i64 (L.getD u Opr.none).q.kind) /\ w'.cell? ⟨w1.heap.size, u * 8 + 1, none⟩ = some (.int .i64 (L.getD u Opr.none).q.arg) /\ w'.cell? ⟨w1.heap.size, u * 8 + 2, none⟩ = some (.int .i64 (L.getD u Opr.none).q.value) /\ w'.cell? ⟨w1.heap.size, u * 8 + 3, none⟩ = some (.bool (L.getD u Opr.none).q.dflt) /\ w'.cell? ⟨w1.heap.size, u * 8 + 4, none⟩ = some (.slice (L.getD u Opr.none).q.A (L.getD u Opr.none).q.n (L.getD u Opr.none).q.c) /\ w'.cell? ⟨w1.heap.size, u * 8 + 5, none⟩ = some (.int .i64 (L.getD u Opr.none).seq) /\ w'.cell? ⟨w1.heap.size, u * 8 + 6, none⟩ = some (.bool (L.getD u Opr.none).on) /\ w'.cell? ⟨w1.heap.size, u * 8 + 7, none⟩ = some (.bool (L.getD u Opr.none).applied)) (first | go_keep | (simp only [hk1, hk2, hk3]; go_keep)) (first
       | (go_at_call 21
          refine (HFO.out _ ?_).mono ?_
          . first | exact HBA.out | exact HBA.out.drew
          rintro er w5 ⟨rfl, hb5'⟩
          have hb5 : Below W1.heap.size W1 w5 := ⟨hb5'.os, hb5'.tape, hb5'.output, hb5'.size, hb5'.block⟩
          have hk1 := fun o => hb5.cell (p := ⟨wr.heap.size, o, none⟩) hlo
          have hk2 := fun o => hb5.cell (p := ⟨w.heap.size, o, none⟩) hlw
          have hk3 := fun o => hb5.cell (p := ⟨w1.heap.size, o, none⟩) hll1))
      have HB5 := Zd (btr HBE.out hb5)
      clear hk1 hk2 hk3 hb5 hb5'
      go_wp2_with fail
      go_ret
      exact ⟨ret_int (HBAD.out HOKE.out).symm, HB5.out⟩
    . go_region_held3 (fun w' => w'.cell? ⟨wr.heap.size, 0, none⟩ = some (.int .i64 x.kind) /\ w'.cell? ⟨wr.heap.size, 1, none⟩ = some (.int .i64 (u : Int)) /\ w'.cell? ⟨wr.heap.size, 2, none⟩ = some (.int .i64 x.seq) /\ w'.cell? ⟨wr.heap.size, 3, none⟩ = some (.int .i64 x.time) /\ w'.cell? ⟨wr.heap.size, 4, none⟩ = some (.int .i64 x.rkind) /\ w'.cell? ⟨wr.heap.size, 5, none⟩ = some (.int .i64 x.rarg) /\ w'.cell? ⟨wr.heap.size, 6, none⟩ = some (.int .i64 x.rvalue) /\ w'.cell? ⟨wr.heap.size, 7, none⟩ = some (.bool x.rdef) /\ w'.cell? ⟨wr.heap.size, 8, none⟩ = some (.slice x.ca x.cl x.cc) /\ w'.cell? ⟨wr.heap.size, 9, none⟩ = some (.int .i64 x.qseq) /\ w'.cell? ⟨wr.heap.size, 10, none⟩ = some (.int .i64 x.qcase) /\ w'.cell? ⟨wr.heap.size, 11, none⟩ = some (.int .i64 x.qcode) /\ w'.cell? ⟨wr.heap.size, 12, none⟩ = some (.int .i64 x.qvalue) /\ w'.cell? ⟨w.heap.size, 1, none⟩ = some (.int .i64 (t : Int)) /\ w'.cell? ⟨w1.heap.size, u * 8, none⟩ = some (.int .i64 (L.getD u Opr.none).q.kind) /\ w'.cell? ⟨w1.heap.size, u * 8 + 1, none⟩ = some (.int .i64 (L.getD u Opr.none).q.arg) /\ w'.cell? ⟨w1.heap.size, u * 8 + 2, none⟩ = some (.int .i64 (L.getD u Opr.none).q.value) /\ w'.cell? ⟨w1.heap.size, u * 8 + 3, none⟩ = some (.bool (L.getD u Opr.none).q.dflt) /\ w'.cell? ⟨w1.heap.size, u * 8 + 4, none⟩ = some (.slice (L.getD u Opr.none).q.A (L.getD u Opr.none).q.n (L.getD u Opr.none).q.c) /\ w'.cell? ⟨w1.heap.size, u * 8 + 5, none⟩ = some (.int .i64 (L.getD u Opr.none).seq) /\ w'.cell? ⟨w1.heap.size, u * 8 + 6, none⟩ = some (.bool (L.getD u Opr.none).on) /\ w'.cell? ⟨w1.heap.size, u * 8 + 7, none⟩ = some (.bool (L.getD u Opr.none).applied)) (first | go_keep | (simp only [hk1, hk2, hk3]; go_keep)) (first
       | (go_at_call 21
          refine (HFO.out _ ?_).mono ?_
          . first | exact HBA.out | exact HBA.out.drew
          rintro er w5 ⟨rfl, hb5'⟩
          have hb5 : Below W1.heap.size W1 w5 := ⟨hb5'.os, hb5'.tape, hb5'.output, hb5'.size, hb5'.block⟩
          have hk1 := fun o => hb5.cell (p := ⟨wr.heap.size, o, none⟩) hlo
          have hk2 := fun o => hb5.cell (p := ⟨w.heap.size, o, none⟩) hlw
          have hk3 := fun o => hb5.cell (p := ⟨w1.heap.size, o, none⟩) hll1))
      have HB5 := Zd ((HBR.out.trans (HBA.out.mono HBR.out.size)).trans (hb5.mono (by omega)))
      have HROW5 := Zd (own_below HROW1.out hb5)
      have HBOX5 := Zd (HBOX.out.below hb5 hlo)
      have HX := Zd (HNX.out HOKE.out)
      clear hk1 hk2 hk3 hb5 hb5' r0 r1 r2 r3 r4 r5 r6 r7 b0 b1 b2 b3 b4 b5 b6 b7 b8 b9 b10 b11 b12 cth2
      have b0 := HBOX5.out.cell (i := 0) rfl
      have b1 := HBOX5.out.cell (i := 1) rfl
      have b2 := HBOX5.out.cell (i := 2) rfl
      have b3 := HBOX5.out.cell (i := 3) rfl
      have b4 := HBOX5.out.cell (i := 4) rfl
      have b5 := HBOX5.out.cell (i := 5) rfl
      have b6 := HBOX5.out.cell (i := 6) rfl
      have b7 := HBOX5.out.cell (i := 7) rfl
      have b8 := HBOX5.out.cell (i := 8) rfl
      obtain ⟨r0, r1, r2, r3, r4, r5, r6, r7⟩ := opr_cells (k := u) (x := L.getD u Opr.none) (own_cellAt HROW5.out) (by rw [HLL.out]; exact hul) rfl
      simp only [Nat.zero_add] at r0 r1 r2 r3 r4 r5 r6 r7
      have zr := own_free HROW5.out
      rw [hu2] at b1
      by_cases k1 : x.kind = 1
      . have g1 : (x.kind == 1) = true := by simp [k1]
        have HST : Hid (stepO (L.getD u Opr.none) x = ⟨x.q, if x.seq < (L.getD u Opr.none).seq then (L.getD u Opr.none).seq else x.seq, true, x.seq == 0⟩) := Zd (by
         unfold stepO
         rw [if_pos k1, show max x.seq (L.getD u Opr.none).seq = if x.seq < (L.getD u Opr.none).seq then (L.getD u Opr.none).seq else x.seq by rw [Int.max_def]; split <;> split <;> omega]
         rfl)
        have HCK : Hid (callsK PS (k + 1) = callsK PS k + 1) := Zd (by rw [HCN.out, if_pos k1])
        clear k1
        go_upto_region 14 with (fail)
        go_region
        have HOW := Zd (own_whole HROW5.out HLL.out hul ⟨x.q, if x.seq < (L.getD u Opr.none).seq then (L.getD u Opr.none).seq else x.seq, true, x.seq == 0⟩)
        have HBN : Hid (Below w1.heap.size w1 ((((((((w5.setCell ⟨w1.heap.size, u * 8, none⟩ (.int .i64 x.rkind)).setCell ⟨w1.heap.size, u * 8 + 1, none⟩ (.int .i64 x.rarg)).setCell ⟨w1.heap.size, u * 8 + 2, none⟩ (.int .i64 x.rvalue)).setCell ⟨w1.heap.size, u * 8 + 3, none⟩ (.bool x.rdef)).setCell ⟨w1.heap.size, u * 8 + 4, none⟩ (.slice x.ca x.cl x.cc)).setCell ⟨w1.heap.size, u * 8 + 5, none⟩ (.int .i64 (if x.seq < (L[u]?.getD Opr.none).seq then (L[u]?.getD Opr.none).seq else x.seq))).setCell ⟨w1.heap.size, u * 8 + 6, none⟩ (.bool true)).setCell ⟨w1.heap.size, u * 8 + 7, none⟩ (.bool (x.seq == 0))).drew) := Zd ((below_setsAt (g := w1.heap.size) (Nat.le_refl _) (Opr.cells ⟨x.q, (if x.seq < (L[u]?.getD Opr.none).seq then (L[u]?.getD Opr.none).seq else x.seq), true, x.seq == 0⟩) _ (u * 8) HB5.out).drew)
        replace HOW : Hid (((((((((w5.setCell ⟨w1.heap.size, u * 8, none⟩ (.int .i64 x.rkind)).setCell ⟨w1.heap.size, u * 8 + 1, none⟩ (.int .i64 x.rarg)).setCell ⟨w1.heap.size, u * 8 + 2, none⟩ (.int .i64 x.rvalue)).setCell ⟨w1.heap.size, u * 8 + 3, none⟩ (.bool x.rdef)).setCell ⟨w1.heap.size, u * 8 + 4, none⟩ (.slice x.ca x.cl x.cc)).setCell ⟨w1.heap.size, u * 8 + 5, none⟩ (.int .i64 (if x.seq < (L[u]?.getD Opr.none).seq then (L[u]?.getD Opr.none).seq else x.seq))).setCell ⟨w1.heap.size, u * 8 + 6, none⟩ (.bool true)).setCell ⟨w1.heap.size, u * 8 + 7, none⟩ (.bool (x.seq == 0))).drew.ownsRow w1.heap.size 63 8 (.slice (some ⟨w1.heap.size, 0, none⟩) t t) t (rows (L.set u ⟨x.q, if x.seq < (L.getD u Opr.none).seq then (L.getD u Opr.none).seq else x.seq, true, x.seq == 0⟩))) := Zd (own_drw HOW.out)
        clear r0 r1 r2 r3 r4 r5 r6 r7 b0 b1 b2 b3 b4 b5 b6 b7 b8 zr
        generalize ((((((((w5.setCell ⟨w1.heap.size, u * 8, none⟩ (.int .i64 x.rkind)).setCell ⟨w1.heap.size, u * 8 + 1, none⟩ (.int .i64 x.rarg)).setCell ⟨w1.heap.size, u * 8 + 2, none⟩ (.int .i64 x.rvalue)).setCell ⟨w1.heap.size, u * 8 + 3, none⟩ (.bool x.rdef)).setCell ⟨w1.heap.size, u * 8 + 4, none⟩ (.slice x.ca x.cl x.cc)).setCell ⟨w1.heap.size, u * 8 + 5, none⟩ (.int .i64 (if x.seq < (L[u]?.getD Opr.none).seq then (L[u]?.getD Opr.none).seq else x.seq))).setCell ⟨w1.heap.size, u * 8 + 6, none⟩ (.bool true)).setCell ⟨w1.heap.size, u * 8 + 7, none⟩ (.bool (x.seq == 0))).drew = W6 at *
        go_wp2_with fail
        all_goals
         go_roundg (n - (k + 1))
         case measure => rw [HG.out]; omega
         case rel => exact ⟨k + 1, nextK K (x.p cs), L.set u (stepO (L.getD u Opr.none) x), by omega, rfl, by go_num, by rw [HCK.out]; go_num, HX.out.1, HX.out.2, by rw [List.length_set]; exact HLL.out, by rw [HST.out]; exact HOW.out, HBN.out⟩
      . have g1 : (x.kind == 1) = false := by simp [k1]
        have HCK : Hid (callsK PS (k + 1) = callsK PS k) := Zd (by rw [HCN.out, if_neg k1]; rfl)
        by_cases k3 : x.kind = 3
        . have g3 : (x.kind == 3) = true := by simp [k3]
          have HST : Hid (stepO (L.getD u Opr.none) x = ⟨(L.getD u Opr.none).q, (L.getD u Opr.none).seq, false, (L.getD u Opr.none).applied⟩) := Zd (by unfold stepO; rw [if_neg k1, if_pos k3])
          clear k1 k3
          go_wp2_with fail
          go_roundg (n - (k + 1))
          case measure => rw [HG.out]; omega
          case rel =>
           refine ⟨k + 1, nextK K (x.p cs), L.set u (stepO (L.getD u Opr.none) x), by omega, rfl, by go_num, by rw [HCK.out], HX.out.1, HX.out.2, by rw [List.length_set]; exact HLL.out, ?_, HB5.out.setCell (p := ⟨w1.heap.size, _, none⟩) (Nat.le_refl _) _⟩
           rw [HST.out]
           exact own_put HROW5.out (by omega) (u * 8 + 6) (.bool false) (by omega) (rows_set (l := L) (k := u) (by rw [HLL.out]; exact hul) 6 (.bool false) (⟨(L.getD u Opr.none).q, (L.getD u Opr.none).seq, false, (L.getD u Opr.none).applied⟩ : Opr) (by decide) rfl)
        . have g3 : (x.kind == 3) = false := by simp [k3]
          have HST : Hid (stepO (L.getD u Opr.none) x = L.getD u Opr.none) := Zd (by unfold stepO; rw [if_neg k1, if_neg k3])
          clear k1 k3
          go_wp2_with fail
          go_roundg (n - (k + 1))
          case measure => rw [HG.out]; omega
          case rel =>
           refine ⟨k + 1, nextK K (x.p cs), L.set u (stepO (L.getD u Opr.none) x), by omega, rfl, by go_num, by rw [HCK.out], HX.out.1, HX.out.2, by rw [List.length_set]; exact HLL.out, ?_, HB5.out⟩
           rw [HST.out, set_same L Opr.none (by rw [HLL.out]; exact hul)]
           exact HROW5.out
  . obtain rfl : k = n := by omega
    have HCE : Hid (checkS c PS = if 8 < callsK PS k then 4 else 0) := Zd (by rw [checkS_end HCH.out (by rw [hplen, HTT.out, Int.toNat_natCast]; exact HKN.out), hplen])
    have HBE := Zd (HB1.out.trans (HBR.out.mono HB1.out.size))
    by_cases h8 : 8 < callsK PS k
    . rw [if_pos h8] at HCE
      have g8 : (8 : Int) < (callsK PS k : Int) := by omega
      go_wp2_with fail
      go_ret
      exact ⟨ret_int HCE.out.symm, HBE.out⟩
    . rw [if_neg h8] at HCE
      have g8 : ¬ (8 : Int) < (callsK PS k : Int) := by omega
      go_wp2_with fail
      go_ret
      exact ⟨ret_int HCE.out.symm, HBE.out⟩
section
open Go.RowKit Go.Sort Go.Lib
def Tz16 (w : World) : Prop := 2 < w.heap.size /\ w.cell? ⟨2, 15, none⟩ = some (.int .u8 4)
theorem Tz16.below {w w' : World} (h : Tz16 w) (hb : Below w.heap.size w w') : Tz16 w' := ⟨Nat.lt_of_lt_of_le h.1 hb.size, by rw [hb.cell (p := ⟨2, 15, none⟩) h.1]; exact h.2⟩
def hexd (d : Nat) : UInt8 := if d < 10 then UInt8.ofNat (48 + d) else UInt8.ofNat (87 + d)
def hexDigits (u : Nat) : List UInt8 := if _h : u < 16 then [hexd u] else hexDigits (u / 16) ++ [hexd (u % 16)]
 termination_by u
 decreasing_by omega
theorem isPow16 (w : World) : Calls Tryz.prog 160 #[.int .i64 16] w fun e w' => e = .returned (.bool true) /\ w = w' := by
 go_enter Tryz.func160, Tryz.ntmps160
 go_wp2
 go_ret
 exact ⟨rfl, rfl⟩
theorem tz16_64 (w : World) (h : Tz16 w) : Calls Tryz.prog 190 #[.int .u64 16] w fun e w' => e = .returned (.int .i64 4) /\ w = w' := by
 have hc := h.2
 have b1 : bits BinOp.and IntKind.u64 16 (IntKind.u64.wrap (-16)) = 16 := by decide +kernel
 have w1 : IntKind.u64.wrap (16 * 285870213051353865) = 4573923408821661840 := by decide +kernel
 go_enter Tryz.func190, Tryz.ntmps190
 go_wp2
 go_ret
 exact ⟨rfl, rfl⟩
theorem tz16 (w : World) (h : Tz16 w) : Calls Tryz.prog 161 #[.int .u64 16] w fun e w' => e = .returned (.int .i64 4) /\ w = w' := by
 go_enter Tryz.func161, Tryz.ntmps161
 go_wp2_with (first | (go_at_call 190; refine (tz16_64 _ h).mono ?_; rintro e w' ⟨rfl, rfl⟩))
 go_ret
 exact ⟨rfl, rfl⟩
theorem hexd_at (d : Nat) (h : d < 16) : (⟨#[48, 49, 50, 51, 52, 53, 54, 55, 56, 57, 97, 98, 99, 100, 101, 102, 103, 104, 105, 106, 107, 108, 109, 110, 111, 112, 113, 114, 115, 116, 117, 118, 119, 120, 121, 122]⟩ : ByteArray).data[d]? = some (hexd d) := by
 have : ∀ d : Fin 16, (⟨#[48, 49, 50, 51, 52, 53, 54, 55, 56, 57, 97, 98, 99, 100, 101, 102, 103, 104, 105, 106, 107, 108, 109, 110, 111, 112, 113, 114, 115, 116, 117, 118, 119, 120, 121, 122]⟩ : ByteArray).data[(d : Nat)]? = some (hexd d) := by decide +kernel
 exact this ⟨d, h⟩
theorem hexd_get (d : Nat) (h : d < 16) (h' : d < (⟨#[48, 49, 50, 51, 52, 53, 54, 55, 56, 57, 97, 98, 99, 100, 101, 102, 103, 104, 105, 106, 107, 108, 109, 110, 111, 112, 113, 114, 115, 116, 117, 118, 119, 120, 121, 122]⟩ : ByteArray).size) : (⟨#[48, 49, 50, 51, 52, 53, 54, 55, 56, 57, 97, 98, 99, 100, 101, 102, 103, 104, 105, 106, 107, 108, 109, 110, 111, 112, 113, 114, 115, 116, 117, 118, 119, 120, 121, 122]⟩ : ByteArray)[d] = hexd d := by
 have h1 := hexd_at d h
 obtain ⟨h2, h3⟩ := Array.getElem?_eq_some_iff.1 h1
 exact h3
theorem and15 (u : Nat) (h : u < 18446744073709551616) : bits BinOp.and IntKind.u64 (u : Int) 15 = ((u % 16 : Nat) : Int) := by
 have h1 := bits_and_u64_nat u 15 h (by decide)
 have h2 : u &&& 15 = u % 16 := by
  have := Nat.and_two_pow_sub_one_eq_mod u 4
  simpa using this
 rw [h2] at h1
 exact h1
theorem hex_step {u : Nat} (h : 16 <= u) : hexDigits u = hexDigits (u / 16) ++ [hexd (u % 16)] := by
 rw [hexDigits, dif_neg (by omega)]
theorem hex_last {u : Nat} (h : u < 16) : hexDigits u = [hexd u] := by
 rw [hexDigits, dif_pos h]
theorem hex_length : ∀ (n u : Nat), u < 16 ^ (n + 1) -> (hexDigits u).length <= n + 1
 | 0, u, h => by rw [hex_last (by simpa using h)]; simp
 | n + 1, u, h => by
   by_cases h16 : u < 16
   . rw [hex_last h16]; simp
   . rw [hex_step (by omega)]
     have := hex_length n (u / 16) (by rw [Nat.div_lt_iff_lt_mul (by decide)]; rw [Nat.pow_succ] at h; exact h)
     simp; omega
def u8s (l : List UInt8) : List Value := l.map fun b => Value.int .u8 (b.toNat : Int)
theorem drop_set_one {l : List Value} {i : Nat} (h : i < l.length) (v : Value) : (l.set i v).drop i = v :: l.drop (i + 1) := by
 rw [List.drop_eq_getElem_cons (by simpa using h)]
 simp [List.drop_set_of_lt]
theorem zero65 : Tryz.zeroCells198 = (List.replicate 65 (Value.int .u8 0)).toArray := by kernel_rfl
end
section
open Go.RowKit Go.Sort Go.Lib
theorem byte_info : (Tryz.prog.info? 5).map (fun i => (i.zero, i.size, i.bytes)) = some (some (.int .u8 0), 1, 1) := by kernel_rfl
theorem u8s_one (l : List UInt8) : ∀ v ∈ u8s l, v.oneCell' = true := by
 intro v hv
 simp only [u8s, List.mem_map] at hv
 obtain ⟨b, _, rfl⟩ := hv
 rfl
theorem fmtApp16 (base : Nat) (A : Option Addr) (n c : Nat) (xs : List UInt8) (u : Nat) (hu : u < 18446744073709551616) (w : World) (ht : Tz16 w) (hn : xs.length = n) (hn2 : n <= 1099511627776) (hbs : base <= w.heap.size) (hown : w.ownsRow base 5 1 (.slice A n c) n (u8s xs)) :
  Calls Tryz.prog 128 #[.slice A n c, .int .u64 u, .int .i64 16, .bool false, .bool true] w fun e w' => ∃ A' c', e = .returned (.tuple #[.slice A' (n + (hexDigits u).length) c', .string ⟨#[]⟩]) /\ w'.ownsRow base 5 1 (.slice A' (n + (hexDigits u).length) c') (n + (hexDigits u).length) (u8s (xs ++ hexDigits u)) /\ Below base w w' := by
 have hlen := hex_length 15 u (by simpa using hu)
 have HT := Zd ht
 have HOW := Zd hown
 have HXL := Zd hn
 generalize hd : hexDigits u = D at *
 have HD := Zd hd
 have HLN := Zd hlen
 clear hd hlen hown hn ht
 have HB0 := Zd (show Blk (w.alloc (.cells Tryz.zeroCells198 198)) w.heap.size 198 (List.replicate 65 (Value.int .u8 0)) from by rw [zero65]; exact Blk.new w _ _)
 have HW0 := Zd ((Below.refl w.heap.size w).alloc (Nat.le_refl _) (.cells Tryz.zeroCells198 198))
 go_enter Tryz.func128, Tryz.ntmps128
 go_wp2_with (first | (go_at_call 160; refine (isPow16 _).mono ?_; rintro e w2 ⟨rfl, rfl⟩) | (go_at_call 161; refine (tz16 _ (HT.out.below ((Below.refl _ _).alloc (Nat.le_refl _) _))).mono ?_; rintro e w3 ⟨rfl, rfl⟩))
 generalize hg : w.heap.size = gb at *
 have HGB := Zd hg
 generalize w.alloc (.cells Tryz.zeroCells198 198) = w1 at *
 clear hg
 go_loopg [1, 13] u (fun g uv i wr => ∃ (v k : Nat) (ds : List UInt8) (cs : List Value), g = v /\ v < 18446744073709551616 /\ uv = .int .u64 v /\ i = .int .i64 k /\ D = hexDigits v ++ ds /\ k + ds.length = 65 /\ cs.length = 65 /\ cs.drop k = u8s ds /\ Blk wr gb 198 cs /\ Below gb w wr)
 case atStart => exact ⟨u, 65, [], _, rfl, hu, rfl, rfl, by rw [HD.out]; simp, rfl, by simp, by simp [u8s], HB0.out, HW0.out⟩
 case round =>
  obtain ⟨v, k, ds, cs, hgv, hv, rfl, rfl, hD, hkd, hcl, hcd, hblk, hb⟩ := hrel
  have HG := Zd hgv
  have HDD := Zd hD
  have HCL := Zd hcl
  have HCD := Zd hcd
  have HKD := Zd hkd
  have HBK := Zd hblk
  have HB := Zd hb
  have hk1 : 49 <= k := by
   have h1 := HLN.out; rw [hD, List.length_append] at h1; omega
  have hk2 : k <= 65 := by omega
  clear hgv hD hcl hcd hblk hb hkd
  have h65 : k - 1 < cs.length := by rw [HCL.out]; omega
  have hcell := HBK.out.cell (i := k - 1) (v := cs[k - 1]) (List.getElem?_eq_getElem h65)
  have hfz := HBK.out.frozen (k - 1)
  have w1' : IntKind.i64.wrap ((k : Int) - 1) = ((k - 1 : Nat) : Int) := by rw [show (k : Int) - 1 = ((k - 1 : Nat) : Int) by omega]; exact IntWalk.i64_in _ (by omega)
  have q1 : (0 : Int) <= ((k - 1 : Nat) : Int) := by omega
  have q2 : ((k - 1 : Nat) : Int) < 65 := by omega
  by_cases h16 : 16 <= v
  . have t0 : ((16 : Int) <= (v : Int)) := by omega
    have a1 := and15 v hv
    have hx := hexd_at (v % 16) (by omega)
    have q3 : (0 : Int) <= ((v % 16 : Nat) : Int) := by omega
    have q4 : ((v % 16 : Nat) : Int) < 36 := by omega
    clear hx
    have HX := Zd (hexd_get (v % 16) (by omega))
    go_wp2
    go_roundg (v / 16)
    case measure => rw [HG.out]; omega
    case rel =>
     refine ⟨v / 16, k - 1, hexd (v % 16) :: ds, cs.set (k - 1) _, rfl, by omega, by simp, rfl, by rw [HDD.out, hex_step h16]; simp, by have := HKD.out; simp; omega, by rw [List.length_set]; exact HCL.out, ?_, HBK.out.set_ _ _, HB.out.setCell (p := ⟨gb, k - 1, none⟩) (Nat.le_refl _) _⟩
     rw [drop_set_one h65, show k - 1 + 1 = k by omega, HCD.out, HX.out (Nat.lt_of_lt_of_le (Nat.mod_lt v (by decide : 0 < 16)) (by decide))]
     rfl
  . have t0 : ¬ ((16 : Int) <= (v : Int)) := by omega
    have HX := Zd (hexd_get v (by omega))
    have q3 : (0 : Int) <= (v : Int) := by omega
    have q4 : (v : Int) < 36 := by omega
    have hal : Tryz.prog.arrayLen 198 = 65 := by kernel_rfl
    have hsl : ∀ W, (Instr.sliceAt 198 (.pointer (some ⟨gb, 0, none⟩)) (some (.int .i64 ((k - 1 : Nat) : Int))) none none).run Tryz.prog W = .ok (.slice (some ⟨gb, k - 1, none⟩) (65 - (k - 1)) (65 - (k - 1))) W := fun W => by
     rw [run_sliceAt_array_l W 198 ⟨gb, 0, none⟩ (by simp [Program.arrayLen, Program.elem, Tryz.underlying198]) .i64 ((k - 1 : Nat) : Int) (by omega) (by rw [hal]; omega)]
     rw [hal]
     go_simp
     omega
    clear hal
    have hfin := HBK.out.set_ (k - 1) (.int .u8 ((hexd v).toNat : Int))
    have hrest := drop_set_one h65 (.int .u8 ((hexd v).toNat : Int))
    rw [show k - 1 + 1 = k by omega, HCD.out] at hrest
    have hDl : D.length = 65 - (k - 1) := by have := HKD.out; rw [HDD.out, hex_last (by omega)]; simp; omega
    have HF := Zd (HB.out.setCell (p := ⟨gb, k - 1, none⟩) (Nat.le_refl _) (.int .u8 ((hexd v).toNat : Int)))
    have HRD : Hid (Rd (wr.setCell ⟨gb, k - 1, none⟩ (.int .u8 ((hexd v).toNat : Int))) (some ⟨gb, k - 1, none⟩) (u8s D)) := Zd (.inr ⟨gb, k - 1, rfl, hfin.lt, fun j z hj => by
     refine hfin.cell ?_
     rw [<- List.getElem?_drop, hrest, <- hj, HDD.out, hex_last (by omega)]
     rfl⟩)
    have HLL : Hid (D.length = 65 - (k - 1)) := Zd hDl
    have hDl2 : 65 - (k - 1) <= 16 := by have := HLN.out; omega
    clear hfin hrest hDl
    go_upto_region 25 with fail
    rw [HX.out _]
    generalize wr.setCell ⟨gb, k - 1, none⟩ (.int .u8 ((hexd v).toNat : Int)) = W2 at *
    have HF2 : Hid (Below w.heap.size w W2) := Zd (HF.out.mono (Nat.le_of_eq HGB.out))
    go_wp2_with (first
     | (at_builtin
        refine wpList_app rfl (.tmp 95) (.tmp 97) 113 5 rfl base (.int .u8 0) 1 1 Tryz.underlying113 byte_info rfl (by decide) A n c (u8s xs) rfl (own_below HOW.out HF2.out) (some ⟨gb, k - 1, none⟩) (65 - (k - 1)) (65 - (k - 1)) (u8s D) rfl (by simp) (by rw [<- HLL.out]; simp [u8s]) HRD.out (u8s_one _) (n + (65 - (k - 1))) rfl (u8s (xs ++ D)) (by simp [u8s]) (by unfold maxLen; omega) (by omega) (by have := HF2.out.size; have := HGB.out; omega) ?_
        intro A3 c3 w8 hown3 hg3 hb8)
     | fail)
    go_ret2
    rw [HLL.out]
    exact ⟨A3, c3, rfl, hown3, (HF2.out.mono (by have := HGB.out; omega)).trans hb8⟩
def RetBs (base n : Nat) (xs : List UInt8) (w : World) (e : Ending) (w' : World) : Prop :=
 ∃ A c, e = .returned (.slice A n c) /\ w'.ownsRow base 5 1 (.slice A n c) n (u8s xs) /\ Below base w w'
theorem iAppU16 (base : Nat) (A : Option Addr) (n c : Nat) (xs : List UInt8) (u : Nat) (hu : u < 18446744073709551616) (w : World) (ht : Tz16 w) (hn : xs.length = n) (hn2 : n <= 1099511627776) (hbs : base <= w.heap.size) (hown : w.ownsRow base 5 1 (.slice A n c) n (u8s xs)) :
  Calls Tryz.prog 99 #[.slice A n c, .int .u64 u, .int .i64 16] w (RetBs base (n + (hexDigits u).length) (xs ++ hexDigits u) w) := by
 have HF := Zd (fmtApp16 base A n c xs u hu w ht hn hn2 hbs hown)
 clear ht hown hn
 go_enter Tryz.func99, Tryz.ntmps99
 go_wp2_with (first
  | (go_at_call 128
     refine HF.out.mono ?_
     rintro e w' ⟨A1, c1, rfl, ho, hb⟩)
  | fail)
 go_ret
 exact ⟨A1, c1, rfl, ho, hb⟩
theorem appU16 (base : Nat) (A : Option Addr) (n c : Nat) (xs : List UInt8) (u : Nat) (hu : u < 18446744073709551616) (w : World) (ht : Tz16 w) (hn : xs.length = n) (hn2 : n <= 1099511627776) (hbs : base <= w.heap.size) (hown : w.ownsRow base 5 1 (.slice A n c) n (u8s xs)) :
  Calls Tryz.prog 66 #[.slice A n c, .int .u64 u, .int .i64 16] w (RetBs base (n + (hexDigits u).length) (xs ++ hexDigits u) w) := by
 have HF := Zd (iAppU16 base A n c xs u hu w ht hn hn2 hbs hown)
 clear ht hown hn
 go_enter Tryz.func66, Tryz.ntmps66
 go_wp2_with (first
  | (go_at_call 99
     refine HF.out.mono ?_
     rintro e w' ⟨A1, c1, rfl, ho, hb⟩)
  | fail)
 go_ret
 exact ⟨A1, c1, rfl, ho, hb⟩
theorem iAppI16 (u : Nat) (hu : u < 9223372036854775808) (w : World) (ht : Tz16 w) :
  Calls Tryz.prog 98 #[.slice none 0 0, .int .i64 u, .int .i64 16] w (RetBs w.heap.size (hexDigits u).length (hexDigits u) w) := by
 have hf := iAppU16 w.heap.size none 0 0 [] u (by omega) w ht rfl (by omega) (Nat.le_refl _) (own_nil _ _ _ _)
 rw [Nat.zero_add, List.nil_append] at hf
 have HF := Zd hf
 clear hf
 clear ht
 have w1 : IntKind.u64.wrap (u : Int) = u := IntWalk.u64_in _ (by omega)
 have t0 : ¬ (u : Int) < 0 := by omega
 go_enter Tryz.func98, Tryz.ntmps98
 go_wp2_with (first
  | (go_at_call 99
     refine HF.out.mono ?_
     rintro e w' ⟨A1, c1, rfl, ho, hb⟩)
  | fail)
 go_ret
 exact ⟨A1, c1, rfl, ho, hb⟩
theorem appI16 (u : Nat) (hu : u < 9223372036854775808) (w : World) (ht : Tz16 w) :
  Calls Tryz.prog 65 #[.slice none 0 0, .int .i64 u, .int .i64 16] w (RetBs w.heap.size (hexDigits u).length (hexDigits u) w) := by
 have HF := Zd (iAppI16 u hu w ht)
 clear ht
 go_enter Tryz.func65, Tryz.ntmps65
 go_wp2_with (first
  | (go_at_call 98
     refine HF.out.mono ?_
     rintro e w' ⟨A1, c1, rfl, ho, hb⟩)
  | fail)
 go_ret
 exact ⟨A1, c1, rfl, ho, hb⟩
end
theorem oStart_no (c : Cfg) (w : World) (hc : CfgIn w c) (hk : chkB c = false) : Calls Tryz.prog 17 #[cfgV c] w (RetWords (startO c) w) := by
 have HV : Hid (startO c = []) := Zd (by simp [startO, hk])
 have HB := Zd ((Below.refl w.heap.size w).alloc (Nat.le_refl _) (.cells #[.int .i64 c.kind, .int .i64 c.threads, .int .i64 c.chans, .int .i64 c.cap, .int .i64 c.nodes, .int .i64 c.retire, .int .i64 c.patience, .int .i64 c.tags, .int .i64 c.seqs, .int .i64 c.gens, .slice c.sa c.start.length c.sc] 24))
 have HCK := Zd (fun W (hb : Below w.heap.size w W) => Check_no c W (hc.below hb) hk)
 generalize startO c = R at *
 clear hc hk
 unfold cfgV at HCK ⊢
 go_enter Tryz.func17, Tryz.ntmps17
 go_wp2_with (refine (HCK.out _ HB.out).mono ?_; rintro er w1 ⟨rfl, hb1⟩; have HB1 := Zd (btr HB.out hb1); clear hb1)
 go_ret
 refine ⟨none, 0, by rw [HV.out]; rfl, by rw [HV.out]; exact own_nil _ _ _ _, HB1.out⟩
theorem clr_few1 {x : Clr} {cap : Int} {n : Nat} (h : x.p = ⟨cap, [], List.replicate n Resr.none⟩) (_hn : n <= 64) : x.list.length <= 1048576 := by
 have : x.list = [] := congrArg CellsP.list h
 rw [this]; exact Nat.zero_le _
theorem clr_few2 {x : Clr} {cap : Int} {n : Nat} (h : x.p = ⟨cap, [], List.replicate n Resr.none⟩) (hn : n <= 64) : x.done.length <= 4096 := by
 have : x.done = List.replicate n Resr.none := congrArg CellsP.done h
 rw [this, List.length_replicate]; omega
theorem oStart_cells (c : Cfg) (w : World) (hc : CfgIn w c) (hk : chkB c = true) (hk3 : ¬ c.kind = 3) : Calls Tryz.prog 17 #[cfgV c] w (RetWords (startO c) w) := by
 have hcap := chk_cap hk
 have HV : Hid (startO c = putC c ⟨c.cap, [], List.replicate (clampI c.threads 64) Resr.none⟩) := Zd (by simp [startO, hk, hk3])
 have e3 : (c.kind == 3) = false := by simp [hk3]
 obtain ⟨tn, htn⟩ : ∃ n : Nat, c.threads = n := ⟨c.threads.toNat, by omega⟩
 have hcl : clampI c.threads 64 = tn := by unfold clampI; omega
 rw [hcl] at HV
 have HNW : Hid (∀ W, Calls Tryz.prog 40 #[.int .i64 c.cap, .int .i64 c.threads] W (RetClr ⟨c.cap, [], List.replicate tn Resr.none⟩ W)) := Zd (fun W => by rw [htn]; exact fNew_any c.cap tn W (by omega) (by omega))
 have HBX := Zd (BoxC.new w c)
 have HB := Zd ((Below.refl w.heap.size w).alloc (Nat.le_refl _) (.cells #[.int .i64 c.kind, .int .i64 c.threads, .int .i64 c.chans, .int .i64 c.cap, .int .i64 c.nodes, .int .i64 c.retire, .int .i64 c.patience, .int .i64 c.tags, .int .i64 c.seqs, .int .i64 c.gens, .slice c.sa c.start.length c.sc] 24))
 have HCK := Zd (fun W (hb : Below w.heap.size w W) => Check_ok c W (hc.below hb) hk)
 have HPC := Zd (fun W x (hb : Below w.heap.size w W) (hx : ClrAt W x) => kPutC_any c x W (hc.below hb) hx)
 have HTN := Zd htn
 have hn64 : tn <= 64 := by omega
 generalize startO c = R at *
 clear hc hk hk3 hcl hcap htn
 unfold cfgV at HCK HPC ⊢
 go_enter Tryz.func17, Tryz.ntmps17
 go_wp2_with (refine (HCK.out _ HB.out).mono ?_; rintro er w1 ⟨rfl, hb1⟩; have HB1 := Zd (btr HB.out hb1); have HC1 := Zd (HBX.out.below hb1); clear hb1; obtain ⟨f0, f1, f2, f3, f4, f5, f6, f7, f8, f9, f10⟩ := HC1.out.all)
 have hg0 : w.heap.size < w1.heap.size := HC1.out.1
 go_region_held3 (fun w' => w'.cell? ⟨w.heap.size, 0, none⟩ = some (.int .i64 c.kind) /\ w'.cell? ⟨w.heap.size, 1, none⟩ = some (.int .i64 c.threads) /\ w'.cell? ⟨w.heap.size, 2, none⟩ = some (.int .i64 c.chans) /\ w'.cell? ⟨w.heap.size, 3, none⟩ = some (.int .i64 c.cap) /\ w'.cell? ⟨w.heap.size, 4, none⟩ = some (.int .i64 c.nodes) /\ w'.cell? ⟨w.heap.size, 5, none⟩ = some (.int .i64 c.retire) /\ w'.cell? ⟨w.heap.size, 6, none⟩ = some (.int .i64 c.patience) /\ w'.cell? ⟨w.heap.size, 7, none⟩ = some (.int .i64 c.tags) /\ w'.cell? ⟨w.heap.size, 8, none⟩ = some (.int .i64 c.seqs) /\ w'.cell? ⟨w.heap.size, 9, none⟩ = some (.int .i64 c.gens) /\ w'.cell? ⟨w.heap.size, 10, none⟩ = some (.slice c.sa c.start.length c.sc)) (first | go_keep | (simp only [hk1]; go_keep)) (first
  | (go_at_call 40; refine (HNW.out _).mono ?_; rintro er w2 ⟨x, rfl, hp, hown, hb2⟩; have hL1 := clr_few1 hp hn64; have hD1 := clr_few2 hp hn64; have hB2 : Below w1.heap.size w1 w2 := ⟨hb2.os, hb2.tape, hb2.output, hb2.size, hb2.block⟩; have hk1 := fun o => hB2.cell (p := ⟨w.heap.size, o, none⟩) hg0)
  | (go_at_call 39; refine (HPC.out _ _ (btr HB1.out hB2) ?_).mono ?_; exact hown.at_ hL1 hD1; rintro er w3 ⟨A3, d3, rfl, ho3, hb3⟩; have hB3 := hB2.trans (hb3.mono hB2.size); have hk1 := fun o => hB3.cell (p := ⟨w.heap.size, o, none⟩) hg0))
 clear hk1 f0 f1 f2 f3 f4 f5 f6 f7 f8 f9 f10
 have HB3 := Zd (btr HB1.out hB3)
 have HO3 := Zd (own_lower ho3 (Nat.le_trans HB1.out.size hB2.size))
 have HP := Zd hp
 clear hB3 ho3 hb3 hb2 hB2 hp
 go_wp2_with fail
 go_ret
 refine ⟨A3, d3, ?_, ?_, HB3.out⟩
 . rw [HV.out, <- HP.out]; rfl
 . rw [HV.out, <- HP.out]; exact HO3.out
theorem stateS_rng (c : Cfg) : 0 <= stateS c /\ stateS c <= 1000 := by
 unfold stateS
 split
 . rename_i h
   have hb := chk_cap h
   have hp := prod_b c.chans (1 + c.cap) 8 17 hb.2.2.2.2.1 hb.2.2.2.2.2 (by omega) (by omega)
   split <;> omega
 . omega
theorem oDone_any (c : Cfg) (A : Option Addr) (c0 : Nat) (L : List Int) (t : Int) (w : World) (hc : CfgIn w c) (hR : Rd w A (words L)) (hL : L.length <= 1048576) (h0 : 0 <= t) (ht : t <= 4096) :
  Calls Tryz.prog 103 #[cfgV c, .slice A L.length c0, .int .i64 t] w fun e w' => e = .returned (.int .u64 (doneO c L t)) /\ Below w.heap.size w w' := by
 have hs := stateS_rng c
 have HV : Hid (doneO c L t = if t < 0 ∨ c.threads <= t ∨ chkB c = false ∨ (L.length : Int) <= stateS c + t then 0 else L.getD (stateS c + t).toNat 0) := Zd rfl
 have HST := Zd (fun W (hb : Below w.heap.size w W) => State_any c W (hc.below hb))
 have HCY := Zd (fun W (hb : Below w.heap.size w W) (hk : chkB c = true) => Check_ok c W (hc.below hb) hk)
 have HCN := Zd (fun W (hb : Below w.heap.size w W) (hk : chkB c = false) => Check_no c W (hc.below hb) hk)
 have HBX := Zd (BoxC.new w c)
 have HB := Zd ((Below.refl w.heap.size w).alloc (Nat.le_refl _) (.cells #[.int .i64 c.kind, .int .i64 c.threads, .int .i64 c.chans, .int .i64 c.cap, .int .i64 c.nodes, .int .i64 c.retire, .int .i64 c.patience, .int .i64 c.tags, .int .i64 c.seqs, .int .i64 c.gens, .slice c.sa c.start.length c.sc] 24))
 have HR := Zd (fun W (hb : Below w.heap.size w W) => hR.below hb)
 have hn0 : ¬ t < 0 := by omega
 clear hc hR
 generalize hG : doneO c L t = G at *
 clear hG
 generalize stateS c = s at *
 by_cases h1 : t < c.threads
 . cases hk : chkB c
   . have HVV : Hid (G = 0) := Zd (by rw [HV.out, if_pos (.inr (.inr (.inl hk)))])
     have HCK := Zd (fun W hb => HCN.out W hb hk)
     clear hk HV HCY HCN
     unfold cfgV at HCK HST ⊢
     go_enter Tryz.func103, Tryz.ntmps103
     go_wp2_with (first
     | (refine (HST.out _ HB.out).mono ?_; rintro er w1 ⟨rfl, hb1⟩; have HB1 := Zd (btr HB.out hb1); have HC1 := Zd (HBX.out.below hb1); clear hb1; obtain ⟨f0, f1, f2, f3, f4, f5, f6, f7, f8, f9, f10⟩ := HC1.out.all)
     | (refine (HCK.out _ HB1.out).mono ?_; rintro er w2 ⟨rfl, hb2⟩; have HB2 := Zd (btr HB1.out hb2); clear hb2))
     go_ret
     exact ⟨by rw [HVV.out]; rfl, HB2.out⟩
   . have HCK := Zd (fun W hb => HCY.out W hb hk)
     by_cases h2 : s + t < (L.length : Int)
     . have HVV : Hid (G = L.getD (s + t).toNat 0) := Zd (by rw [HV.out, if_neg (by rintro (g | g | g | g) <;> first | omega | (rw [hk] at g; cases g))])
       clear hk HV HCY HCN
       obtain ⟨j, hj⟩ : ∃ j : Nat, s + t = j := ⟨(s + t).toNat, by omega⟩
       have hjl : j < L.length := by omega
       have hwr : IntKind.i64.wrap (s + t) = (j : Int) := by rw [hj]; exact IntWalk.i64_in _ (by omega)
       rw [hj, Int.toNat_natCast] at HVV
       have q0 : (0 : Int) <= (j : Int) := by omega
       have q1 : (j : Int) < (L.length : Int) := by omega
       have q2 : ¬ (L.length : Int) <= (j : Int) := by omega
       obtain ⟨b, o, rfl, hbl, hcl⟩ := (HR.out w (Below.refl _ _)).at_ (by rw [words_length]; omega)
       have HCL := Zd (hcl j _ (words_at hjl))
       clear hcl hj h2 hjl
       generalize L.length = n at *
       unfold cfgV at HCK HST ⊢
       go_enter Tryz.func103, Tryz.ntmps103
       go_wp2_with (first
        | (refine (HST.out _ HB.out).mono ?_; rintro er w1 ⟨rfl, hb1⟩; have HB1 := Zd (btr HB.out hb1); have HC1 := Zd (HBX.out.below hb1); clear hb1; obtain ⟨f0, f1, f2, f3, f4, f5, f6, f7, f8, f9, f10⟩ := HC1.out.all)
        | (refine (HCK.out _ HB1.out).mono ?_; rintro er w2 ⟨rfl, hb2⟩; have HB2 := Zd (btr HB1.out hb2); clear hb2; have x0 := (HB2.out.cell (p := ⟨b, o + j, none⟩) hbl).trans HCL.out))
       go_ret
       exact ⟨by rw [HVV.out]; rfl, HB2.out⟩
     . have HVV : Hid (G = 0) := Zd (by rw [HV.out, if_pos (.inr (.inr (.inr (by omega))))])
       clear hk HV HCY HCN
       have hwr : IntKind.i64.wrap (s + t) = s + t := IntWalk.i64_in _ (by omega)
       have h3 : (L.length : Int) <= s + t := by omega
       clear h2
       generalize L.length = n at *
       unfold cfgV at HCK HST ⊢
       go_enter Tryz.func103, Tryz.ntmps103
       go_wp2_with (first
     | (refine (HST.out _ HB.out).mono ?_; rintro er w1 ⟨rfl, hb1⟩; have HB1 := Zd (btr HB.out hb1); have HC1 := Zd (HBX.out.below hb1); clear hb1; obtain ⟨f0, f1, f2, f3, f4, f5, f6, f7, f8, f9, f10⟩ := HC1.out.all)
     | (refine (HCK.out _ HB1.out).mono ?_; rintro er w2 ⟨rfl, hb2⟩; have HB2 := Zd (btr HB1.out hb2); clear hb2))
       go_ret
       exact ⟨by rw [HVV.out]; rfl, HB2.out⟩
 . have HVV : Hid (G = 0) := Zd (by rw [HV.out, if_pos (.inr (.inl (by omega)))])
   have h4 : c.threads <= t := by omega
   clear HV HCY HCN h1
   have hwr : IntKind.i64.wrap (s + t) = s + t := IntWalk.i64_in _ (by omega)
   unfold cfgV at HST ⊢
   go_enter Tryz.func103, Tryz.ntmps103
   go_wp2_with (refine (HST.out _ HB.out).mono ?_; rintro er w1 ⟨rfl, hb1⟩; have HB1 := Zd (btr HB.out hb1); have HC1 := Zd (HBX.out.below hb1); clear hb1; obtain ⟨f0, f1, f2, f3, f4, f5, f6, f7, f8, f9, f10⟩ := HC1.out.all)
   go_ret
   exact ⟨by rw [HVV.out]; rfl, HB1.out⟩
end Go.Proofs.YtieglgahfeecbaaGreatDoor
