/- waits: a thread's place; calls that wait in new memory: walked. -/
import Derived.Test.YtieglgahfeecbaaGreatDoorA5
import Derived.Test.YtieglgahfeecbaaGreatDoorA1
import Derived.Test.YtieglgahfeecbaaGreatDoorA3
import Derived.Test.YtieglgahfeecbaaGreatDoorA4
namespace Go.Proofs.YtieglgahfeecbaaGreatDoor
open Go.RowKit Go.Sort
attribute [local go_sem ↓] Go.wp_at_zero Go.wp_at_succ

/-- Cells, and where they lie. -/
structure Clr where
  (cap : Int)
  (LA : Option Addr)
  (lc : Nat)
  (list : List Int)
  (DA : Option Addr)
  (dc : Nat)
  (done : List Resr)
def Clr.p (x : Clr) : CellsP := ⟨x.cap, x.list, x.done⟩
abbrev clrV (x : Clr) : Value := .agg #[.int .i64 x.cap, .slice x.LA x.list.length x.lc, .slice x.DA x.done.length x.dc]
def Clr.cells (x : Clr) : List Value := [.int .i64 x.cap, .slice x.LA x.list.length x.lc, .slice x.DA x.done.length x.dc]
structure ClrAt (w : World) (x : Clr) : Prop where
  rl : Rd w x.LA (ints x.list)
  rd : Rd w x.DA (rows x.done)
  fl : x.list.length ≤ 1048576
  fd : x.done.length ≤ 4096
theorem ClrAt.below {w w' : World} {x : Clr} (h : ClrAt w x) (hb : Below w.heap.size w w') : ClrAt w' x := ⟨h.rl.below hb, h.rd.below hb, h.fl, h.fd⟩

theorem below_two (w : World) (o o' : Obj) : Below w.heap.size w ((w.alloc o).alloc o') := ((Below.refl w.heap.size w).alloc (Nat.le_refl _) o).alloc (by simp) o'

set_option maxHeartbeats 4000000 in
set_option maxRecDepth 100000 in
theorem kFitsC_any (c : Cfg) (x : Clr) (w : World) (hc : CfgIn w c) (hx : ClrAt w x) :
    Calls Tryz.prog 79 #[cfgV c, clrV x] w fun e w' => e = .returned (.bool (fitsC c x.p)) ∧ Below w.heap.size w w' := by
  obtain ⟨cap, LA, lc, li, DA, dc, dn⟩ := x
  have HV : RowKit.Hid (fitsC c (Clr.p ⟨cap, LA, lc, li, DA, dc, dn⟩) = (chkB c && !decide (c.kind = 3) && decide (cap = c.cap) && valuesB li c.cap && dnsB dn c.threads)) := Lib.hid rfl
  generalize fitsC c (Clr.p ⟨cap, LA, lc, li, DA, dc, dn⟩) = R at *
  have HVA := Lib.hid (fun W (hb : Below w.heap.size w W) => kvalues_any LA lc li c.cap W hx.fl (hx.rl.below hb))
  have HDN := Lib.hid (fun W (hb : Below w.heap.size w W) => kdone_any DA dc dn c.threads W (Nat.le_trans hx.fd (by decide)) (hx.rd.below hb))
  clear hx
  unfold clrV
  simp only
  generalize li.length = ll at *
  generalize dn.length = dl at *
  generalize valuesB li c.cap = v at *
  generalize dnsB dn c.threads = d at *
  obtain ⟨f0, f1, f2, f3, f4, f5, f6, f7, f8, f9, f10⟩ := (BoxC.new w c).all
  have HBX := Lib.hid (below_two w (.cells #[.int .i64 c.kind, .int .i64 c.threads, .int .i64 c.chans, .int .i64 c.cap, .int .i64 c.nodes, .int .i64 c.retire, .int .i64 c.patience, .int .i64 c.tags, .int .i64 c.seqs, .int .i64 c.gens, .slice c.sa c.start.length c.sc] 24) (.cells #[.int .i64 cap, .slice LA ll lc, .slice DA dl dc] 91))
  cases hk : chkB c
  · have HCK := Lib.hid (fun W (hb : Below w.heap.size w W) => Check_no c W (hc.below hb) hk)
    rw [hk] at HV
    unfold cfgV at HCK ⊢
    clear hc hk
    go_enter Tryz.func79, Tryz.ntmps79
    go_wp2_with (first
      | (refine (HCK.out _ HBX.out).mono ?_; rintro er w1 ⟨rfl, hb1⟩; have HB1 := Lib.hid (HBX.out.trans (hb1.mono HBX.out.size)); clear hb1))
    go_ret
    exact ⟨ret_bool (by rw [HV.out]; rfl), HB1.out⟩
  · have HCK := Lib.hid (fun W (hb : Below w.heap.size w W) => Check_ok c W (hc.below hb) hk)
    rw [hk] at HV
    unfold cfgV at HCK ⊢
    clear hc hk
    go_enter Tryz.func79, Tryz.ntmps79
    go_wp2_with (first
      | (refine (HCK.out _ HBX.out).mono ?_; rintro er w1 ⟨rfl, hb1⟩; have hk1 := fun o => hb1.cell (p := ⟨w.heap.size, o, none⟩) (by simp; omega); have hk2 := fun o => hb1.cell (p := ⟨w.heap.size + 1, o, none⟩) (by simp); have HA1 := Lib.hid hb1; have HB1 := Lib.hid (HBX.out.trans (hb1.mono HBX.out.size)); clear hb1)
      | (refine (HVA.out _ HB1.out).mono ?_; rintro er w2 ⟨rfl, hb2⟩; have HA2 := Lib.hid (HA1.out.trans (hb2.mono HA1.out.size)); have HB2 := Lib.hid (HB1.out.trans (hb2.mono HB1.out.size)); clear hk1 hk2 hb2; have hk1 := fun o => HA2.out.cell (p := ⟨w.heap.size, o, none⟩) (by simp; omega); have hk2 := fun o => HA2.out.cell (p := ⟨w.heap.size + 1, o, none⟩) (by simp))
      | (refine (HDN.out _ HB2.out).mono ?_; rintro er w3 ⟨rfl, hb3⟩; have HB3 := Lib.hid (HB2.out.trans (hb3.mono HB2.out.size)); clear hb3))
    all_goals
      go_ret
      refine ⟨ret_bool ?_, by first | exact HB3.out | exact HB2.out | exact HB1.out⟩
      rw [HV.out]
      simp [*]

end Go.Proofs.YtieglgahfeecbaaGreatDoor

namespace Go.Proofs.YtieglgahfeecbaaGreatDoor
open Go.RowKit Go.Sort
attribute [local go_sem ↓] Go.wp_at_zero Go.wp_at_succ

theorem krow_int (base : Nat) (A : Option Addr) (m c : Nat) (xs : List Int) (B : Option Addr) (d ll : Nat) (l : List Int) (n : Int) (w : World) (hll : l.length = ll) (hb : base ≤ w.heap.size) (hown : w.ownsRow base 95 1 (.slice A m c) m (words xs))
    (hl : ll ≤ 1048576) (hv : ∀ v ∈ l, inB v 0 4294967295 = true) (h0 : 0 ≤ n) (hn : n ≤ 4096) (hm : m ≤ 4096) (hR : ∀ w', Below base w w' → Rd w' B (ints l)) :
    Calls Tryz.prog 74 #[.slice A m c, .slice B ll d, .int .i64 n] w (RetMore base (m + n.toNat) (xs ++ rowI l n.toNat) w) := by
  subst hll
  obtain ⟨k, rfl⟩ : ∃ k : Nat, n = k := ⟨n.toNat, by omega⟩
  rw [Int.toNat_natCast]
  exact krow_any base A m c xs B d l k w hb hown hl hv (by omega) hm hR
theorem kresults_int (base : Nat) (A : Option Addr) (m c : Nat) (xs : List Int) (B : Option Addr) (d ll : Nat) (l : List Resr) (w : World) (hll : l.length = ll) (hb : base ≤ w.heap.size) (hown : w.ownsRow base 95 1 (.slice A m c) m (words xs))
    (hl : ll ≤ 4096) (hm : m ≤ 4096) (hR : ∀ w', Below base w w' → Rd w' B (rows l)) :
    Calls Tryz.prog 78 #[.slice A m c, .slice B ll d] w (RetMore base (m + ll) (xs ++ l.map resI) w) := by
  subst hll
  exact kresults_any base A m c xs B d l w hb hown hl hm hR

/-- Handed back: words in a row of their own. -/
def RetWords (xs : List Int) (w : World) (e : Ending) (w' : World) : Prop := RetMore w.heap.size xs.length xs w e w'

set_option maxHeartbeats 8000000 in
set_option maxRecDepth 100000 in
theorem kPutC_any (c : Cfg) (x : Clr) (w : World) (hc : CfgIn w c) (hx : ClrAt w x) :
    Calls Tryz.prog 39 #[cfgV c, clrV x] w (RetWords (putC c x.p) w) := by
  have HFC := Lib.hid (fun W (hb : Below w.heap.size w W) => kFitsC_any c x W (hc.below hb) (hx.below hb))
  cases hf : fitsC c x.p
  · have HV : RowKit.Hid (putC c x.p = []) := Lib.hid (by simp [putC, hf])
    rw [hf] at HFC
    clear hc hx hf
    generalize putC c x.p = R at *
    obtain ⟨cap, LA, lc, li, DA, dc, dn⟩ := x
    unfold clrV cfgV at HFC ⊢
    simp only at HFC ⊢
    have HBX := Lib.hid (below_two w (.cells #[.int .i64 c.kind, .int .i64 c.threads, .int .i64 c.chans, .int .i64 c.cap, .int .i64 c.nodes, .int .i64 c.retire, .int .i64 c.patience, .int .i64 c.tags, .int .i64 c.seqs, .int .i64 c.gens, .slice c.sa c.start.length c.sc] 24) (.cells #[.int .i64 cap, .slice LA li.length lc, .slice DA dn.length dc] 91))
    go_enter Tryz.func39, Tryz.ntmps39
    go_wp2_with (first
      | (refine (HFC.out _ HBX.out).mono ?_; rintro er w1 ⟨rfl, hb1⟩; have HB1 := Lib.hid (HBX.out.trans (hb1.mono HBX.out.size)); clear hb1))
    go_ret
    refine ⟨none, 0, by rw [HV.out]; rfl, by rw [HV.out]; exact own_nil _ _ _ _, HB1.out⟩
  · have HV : RowKit.Hid (putC c x.p = cellsI c.cap x.p) := Lib.hid (by simp [putC, hf])
    have hck : chkB c = true := by
      simp only [fitsC, Bool.and_eq_true] at hf
      exact hf.1.1.1.1
    have hk3 : ¬ c.kind = 3 := by
      simp only [fitsC, Bool.and_eq_true, Bool.not_eq_true', decide_eq_false_iff_not] at hf
      exact hf.1.1.1.2
    have hft := (fitsC_iff hck hk3).1 hf
    have hcap := chk_cap hck
    have hL : x.list.length + x.done.length ≤ 128 := by
      have h1 := hft.few; have h2 := hft.ndn
      have e2 : x.p.list.length = x.list.length := rfl
      have e3 : x.p.done.length = x.done.length := rfl
      omega
    have hval : ∀ v ∈ x.list, inB v 0 4294967295 = true := hft.vals
    have hLN : (cellsI c.cap x.p).length = 1 + c.cap.toNat + x.done.length := cellsI_len c.cap x.p
    have hE : cellsI c.cap x.p = [(x.list.length : Int)] ++ rowI x.list c.cap.toNat ++ x.done.map resI := rfl
    obtain ⟨c0, c1, _⟩ := hcap
    rw [hf] at HFC
    rw [HV.out]
    rw [hE] at hLN ⊢
    have HLN := Lib.hid hLN
    clear hf hck hk3 hft hE hLN HV
    have HRO := Lib.hid (fun base W A1 d1 (hb : Below w.heap.size w W) (hB : base ≤ W.heap.size) (hB2 : w.heap.size ≤ base) (hown : W.ownsRow base 95 1 (.slice A1 1 d1) 1 (words [(x.list.length : Int)])) =>
      krow_int base A1 1 d1 [(x.list.length : Int)] x.LA x.lc x.list.length x.list c.cap W rfl hB hown (by omega) hval c0 (by omega) (by omega) (fun w' hw' => hx.rl.below (hb.trans (hw'.mono hB2))))
    have HRE := Lib.hid (fun base W A1 d1 (hb : Below w.heap.size w W) (hB : base ≤ W.heap.size) (hB2 : w.heap.size ≤ base) (hown : W.ownsRow base 95 1 (.slice A1 (1 + c.cap.toNat) d1) (1 + c.cap.toNat) (words ([(x.list.length : Int)] ++ rowI x.list c.cap.toNat))) =>
      kresults_int base A1 (1 + c.cap.toNat) d1 ([(x.list.length : Int)] ++ rowI x.list c.cap.toNat) x.DA x.dc x.done.length x.done W rfl hB hown (by omega) (by omega) (fun w' hw' => hx.rd.below (hb.trans (hw'.mono hB2))))
    clear hval hx hc
    obtain ⟨cap, LA, lc, li, DA, dc, dn⟩ := x
    simp only at HRO HRE HLN hL ⊢
    unfold clrV cfgV at HFC ⊢
    simp only at HFC ⊢
    generalize hll : li.length = ll at *
    generalize hdl : dn.length = dl at *
    have HLL := Lib.hid hll
    clear hll hdl
    have ll0 : ll ≤ 128 := by omega
    have hwr : IntKind.u64.wrap (ll : Int) = (ll : Int) := IntWalk.u64_in _ (by omega)
    obtain ⟨f0, f1, f2, f3, f4, f5, f6, f7, f8, f9, f10⟩ := (BoxC.new w c).all
    have HBX := Lib.hid (below_two w (.cells #[.int .i64 c.kind, .int .i64 c.threads, .int .i64 c.chans, .int .i64 c.cap, .int .i64 c.nodes, .int .i64 c.retire, .int .i64 c.patience, .int .i64 c.tags, .int .i64 c.seqs, .int .i64 c.gens, .slice c.sa c.start.length c.sc] 24) (.cells #[.int .i64 cap, .slice LA ll lc, .slice DA dl dc] 91))
    generalize c.cap.toNat = cn at *
    generalize [(ll : Int)] ++ rowI li cn ++ dn.map resI = Z at *
    go_enter Tryz.func39, Tryz.ntmps39
    go_wp2_with (first
      | (refine (HFC.out _ HBX.out).mono ?_; rintro er w1 ⟨rfl, hb1⟩; have HA1 := Lib.hid hb1; have HB1 := Lib.hid (HBX.out.trans (hb1.mono HBX.out.size)); clear hb1))
    have x3 : w1.cell? ⟨w.heap.size, 3, none⟩ = some (.int .i64 c.cap) := by rw [HA1.out.cell (p := ⟨w.heap.size, 3, none⟩) (by simp; omega), World.cell?_alloc_lt _ _ _ (by simp)]; exact f3
    have x8 : w1.cell? ⟨w.heap.size + 1, 1, none⟩ = some (.slice LA ll lc) := by rw [HA1.out.cell (p := ⟨w.heap.size + 1, 1, none⟩) (by simp)]; simp
    have x9 : w1.cell? ⟨w.heap.size + 1, 2, none⟩ = some (.slice DA dl dc) := by rw [HA1.out.cell (p := ⟨w.heap.size + 1, 2, none⟩) (by simp)]; simp
    have hg1 : w.heap.size + 1 < w1.heap.size := by have := HA1.out.size; simp at this; omega
    have hg0 : w.heap.size < w1.heap.size := by omega
    clear HA1 f0 f1 f2 f3 f4 f5 f6 f7 f8 f9 f10
    go_region_held3 (fun w' => w'.cell? ⟨w.heap.size, 3, none⟩ = some (.int .i64 c.cap) ∧ w'.cell? ⟨w.heap.size + 1, 1, none⟩ = some (.slice LA ll lc) ∧ w'.cell? ⟨w.heap.size + 1, 2, none⟩ = some (.slice DA dl dc)) (first | go_keep | (simp only [hk1, hk2]; go_keep)) (first
      | (go_at_call 74; refine (HRO.out w1.heap.size _ _ _ (HB1.out.trans ((below1 _ _).mono HB1.out.size)) ?_ HB1.out.size (own_blk1 (Blk.drew (blk_new rfl)) (Nat.le_refl _) rfl ?_)).mono ?_; simp; (unfold maxLen; omega); rintro er w2 ⟨A2, d2, rfl, ho2, hb2⟩; have hB2 : Below w1.heap.size w1 w2 := (below1 _ _).trans hb2; have hk1 := fun o => hB2.cell (p := ⟨w.heap.size, o, none⟩) hg0; have hk2 := fun o => hB2.cell (p := ⟨w.heap.size + 1, o, none⟩) hg1)
      | (go_at_call 78; refine (HRE.out w1.heap.size _ _ _ (HB1.out.trans (hB2.mono HB1.out.size)) hB2.size HB1.out.size ho2).mono ?_; rintro er w3 ⟨A3, d3, rfl, ho3, hb3⟩; have hB3 : Below w1.heap.size w1 w3 := hB2.trans hb3; have hk1 := fun o => hB3.cell (p := ⟨w.heap.size, o, none⟩) hg0; have hk2 := fun o => hB3.cell (p := ⟨w.heap.size + 1, o, none⟩) hg1))
    clear hk1 hk2 x3 x8 x9
    have HO3 := Lib.hid (own_lower ho3 HB1.out.size)
    have HB3 := Lib.hid (HB1.out.trans (hB3.mono HB1.out.size))
    clear ho3 hB3 hB2 hb2 hb3 ho2
    go_wp2_with fail
    go_ret
    unfold RetWords
    rw [HLN.out]
    exact ⟨A3, d3, rfl, HO3.out, HB3.out⟩

end Go.Proofs.YtieglgahfeecbaaGreatDoor

namespace Go.Proofs.YtieglgahfeecbaaGreatDoor
open Go.RowKit Go.Sort

def rrOf (u : Nat) : Resr := ⟨(u : Int) / 17592186044416, (u : Int) / 1099511627776 % 16, (u : Int) / 4294967296 % 256, (u : Int) % 4294967296⟩

theorem rsl_load {w : World} {g : Nat} {r : Resr} (h : Blk w g 42 r.cells) : (loadVar 42 ⟨g, 0, none⟩).run Tryz.prog w = .ok (rsV r) w :=
  run_loadVar_row (P := Tryz.prog) w g 42 42 _ (0, 0) _ h Tryz.underlying42 rfl (by kernel_rfl)

theorem and4 (u : Nat) (h : u < 18446744073709551616) : bits BinOp.and IntKind.u64 (u : Int) 15 = (u : Int) % 16 := by
  have h1 := bits_and_u64_nat u 15 h (by decide)
  have h2 : u &&& 15 = u % 16 := by
    have := Nat.and_two_pow_sub_one_eq_mod u 4
    simpa using this
  rw [h2] at h1
  exact h1.trans (by omega)
theorem and8 (u : Nat) (h : u < 18446744073709551616) : bits BinOp.and IntKind.u64 (u : Int) 255 = (u : Int) % 256 := by
  have h1 := bits_and_u64_nat u 255 h (by decide)
  have h2 : u &&& 255 = u % 256 := by
    have := Nat.and_two_pow_sub_one_eq_mod u 8
    simpa using this
  rw [h2] at h1
  exact h1.trans (by omega)

set_option maxHeartbeats 4000000 in
set_option maxRecDepth 100000 in
theorem ReadResult_any (u : Nat) (hu : u < 18446744073709551616) (w : World) :
    Calls Tryz.prog 102 #[.int .u64 u] w fun e w' => e = .returned (rsV (rrOf u)) ∧ Below w.heap.size w w' := by
  have f1 := and4 (u / 1099511627776) (by omega)
  have f2 := and8 (u / 4294967296) (by omega)
  have f3 := and32 u hu
  rw [show ((u / 1099511627776 : Nat) : Int) = (u : Int) / 1099511627776 by omega] at f1
  rw [show ((u / 4294967296 : Nat) : Int) = (u : Int) / 4294967296 by omega] at f2
  have p1 : 0 ≤ (u : Int) / 17592186044416 ∧ (u : Int) / 17592186044416 < 1048576 := by omega
  have p2 : 0 ≤ (u : Int) / 1099511627776 % 16 ∧ (u : Int) / 1099511627776 % 16 < 16 := by omega
  have p3 : 0 ≤ (u : Int) / 4294967296 % 256 ∧ (u : Int) / 4294967296 % 256 < 256 := by omega
  have p4 : 0 ≤ (u : Int) % 4294967296 ∧ (u : Int) % 4294967296 < 4294967296 := by omega
  obtain ⟨p1a, p1b⟩ := p1
  obtain ⟨p2a, p2b⟩ := p2
  obtain ⟨p3a, p3b⟩ := p3
  obtain ⟨p4a, p4b⟩ := p4
  go_enter Tryz.func102, Tryz.ntmps102
  go_wp2
  refine bodyPost_ret (v := rsV (rrOf u)) (ret_cell (g := w.heap.size) rfl rfl (rsl_load (Blk.new w 42 (rrOf u).cells))) rfl ⟨rfl, ?_⟩
  exact (Below.refl _ _).alloc (Nat.le_refl _) _

set_option maxHeartbeats 4000000 in
set_option maxRecDepth 100000 in
theorem rReadResult_any (u : Nat) (hu : u < 18446744073709551616) (w : World) :
    Calls Tryz.prog 42 #[.int .u64 u] w fun e w' => e = .returned (rsV (rrOf u)) ∧ Below w.heap.size w w' := by
  have d1 : (u : Int) / 4294967296 / 256 = (u : Int) / 1099511627776 := by omega
  have d2 : (u : Int) / 1099511627776 / 16 = (u : Int) / 17592186044416 := by omega
  have p1 : 0 ≤ (u : Int) / 17592186044416 ∧ (u : Int) / 17592186044416 < 1048576 := by omega
  have p2 : 0 ≤ (u : Int) / 1099511627776 % 16 ∧ (u : Int) / 1099511627776 % 16 < 16 := by omega
  have p3 : 0 ≤ (u : Int) / 4294967296 % 256 ∧ (u : Int) / 4294967296 % 256 < 256 := by omega
  have p4 : 0 ≤ (u : Int) % 4294967296 ∧ (u : Int) % 4294967296 < 4294967296 := by omega
  obtain ⟨p1a, p1b⟩ := p1
  obtain ⟨p2a, p2b⟩ := p2
  obtain ⟨p3a, p3b⟩ := p3
  obtain ⟨p4a, p4b⟩ := p4
  go_enter Tryz.func42, Tryz.ntmps42
  go_wp2
  refine bodyPost_ret (v := rsV (rrOf u)) (ret_cell (g := w.heap.size) rfl rfl (rsl_load ((Blk.new w 42 (rrOf u).cells).alloc _))) rfl ⟨rfl, ?_⟩
  exact ((Below.refl _ _).alloc (Nat.le_refl _) _).alloc (by simp) _

end Go.Proofs.YtieglgahfeecbaaGreatDoor

namespace Go.Proofs.YtieglgahfeecbaaGreatDoor
open Go.RowKit Go.Sort
attribute [local go_sem ↓] Go.wp_at_zero Go.wp_at_succ

set_option maxHeartbeats 4000000 in
set_option maxRecDepth 100000 in
theorem knext_any (g b p m c : Nat) (x : Int) (w : World) (hg : Blk w g 172 [.slice (some ⟨b, p, none⟩) m c]) (hm : 0 < m) (hc : m ≤ c) (hx : w.cell? ⟨b, p, none⟩ = some (.int .u64 x)) :
    Calls Tryz.prog 134 #[.pointer (some ⟨g, 0, none⟩)] w fun e w' => e = .returned (.int .u64 x) ∧ ∃ p', (1 < m → p' = p + 1) ∧ w' = w.setCell ⟨g, 0, none⟩ (.slice (some ⟨b, p', none⟩) (m - 1) (c - 1)) := by
  have y0 := hg.cell (i := 0) rfl
  have z0 := hg.frozen 0
  have m0 : ¬ (m : Int) = 0 := by omega
  have m1 : (0 : Int) < (m : Int) := by omega
  have m2 : (1 : Int) ≤ (m : Int) := by omega
  have m3 : (m : Int) ≤ (c : Int) := by omega
  by_cases hc1 : c = 1
  · subst hc1
    obtain rfl : m = 1 := by omega
    go_enter Tryz.func134, Tryz.ntmps134
    go_wp2
    go_ret
    exact ⟨rfl, p, fun h => by omega, rfl⟩
  · have c1 : 1 < c := by omega
    have c2 : ¬ c - 1 = 0 := by omega
    have c3 : (c - 1 == 0) = false := by simpa using c2
    go_enter Tryz.func134, Tryz.ntmps134
    go_wp2
    go_ret
    exact ⟨rfl, p + 1, fun _ => rfl, rfl⟩

/-- A reader: what words are left. -/
structure RdrAt (w : World) (g b : Nat) (L : List Int) : Prop where
  at_ : ∃ p c, Blk w g 172 [.slice (some ⟨b, p, none⟩) L.length c] ∧ L.length ≤ c ∧ ∀ k, k < L.length → w.cell? ⟨b, p + k, none⟩ = some (.int .u64 (L.getD k 0))
  ne : b ≠ g
  bl : b < w.heap.size
  big : ∀ x ∈ L, 0 ≤ x ∧ x < 18446744073709551616
theorem RdrAt.gl {w : World} {g b : Nat} {L : List Int} (h : RdrAt w g b L) : g < w.heap.size := by
  obtain ⟨p, c, h1, _⟩ := h.at_
  exact h1.lt
theorem RdrAt.low {w w' : World} {g b base : Nat} {L : List Int} (h : RdrAt w g b L) (hb : Below base w w') (h1 : g < base) (h2 : b < base) : RdrAt w' g b L := by
  obtain ⟨p, c, g1, g2, g3⟩ := h.at_
  refine ⟨⟨p, c, g1.below hb h1, g2, fun k hk => ?_⟩, h.ne, Nat.lt_of_lt_of_le h.bl hb.size, h.big⟩
  rw [hb.cell (p := ⟨b, p + k, none⟩) h2]
  exact g3 k hk
theorem RdrAt.below {w w' : World} {g b : Nat} {L : List Int} (h : RdrAt w g b L) (hb : Below w.heap.size w w') : RdrAt w' g b L := h.low hb h.gl h.bl

theorem rdr_next (g b : Nat) (x : Int) (L : List Int) (w : World) (h : RdrAt w g b (x :: L)) :
    Calls Tryz.prog 134 #[.pointer (some ⟨g, 0, none⟩)] w fun e w' => e = .returned (.int .u64 x) ∧ RdrAt w' g b L ∧ Only g w w' := by
  obtain ⟨p, c, h1, h2, h3⟩ := h.at_
  refine (knext_any g b p (x :: L).length c x w h1 (by simp) h2 (h3 0 (by simp))).mono ?_
  rintro e w' ⟨rfl, p', hp, rfl⟩
  refine ⟨rfl, ⟨⟨p', c - 1, h1.set_ 0 _, by simp at h2 ⊢; omega, fun k hk => ?_⟩, h.ne, by simpa [World.setCell] using h.bl, fun y hy => h.big y (List.mem_cons_of_mem _ hy)⟩, (Only.refl g w).set_ 0 _⟩
  have hp2 := hp (by simp; omega)
  subst hp2
  have hc : (w.setCell ⟨g, 0, none⟩ (.slice (some ⟨b, p + 1, none⟩) ((x :: L).length - 1) (c - 1))).cell? ⟨b, p + 1 + k, none⟩ = w.cell? ⟨b, p + 1 + k, none⟩ :=
    World.cell?_of_block (Below.heap_setCell w ⟨g, 0, none⟩ _ b h.ne)
  rw [hc, show p + 1 + k = p + (k + 1) by omega]
  have := h3 (k + 1) (by simpa using hk)
  simpa using this

theorem drop_cons_getD {L : List Int} {k : Nat} (h : k < L.length) : L.drop k = L.getD k 0 :: L.drop (k + 1) := by
  rw [List.drop_eq_getElem_cons h]
  simp [List.getD, h]

theorem rowR_succ (some k : _) (l : List Int) : rowR some (k + 1) l = rowR some k l ++ (if (k : Int) < some then [l.getD k 0 % 4294967296] else []) := by
  unfold rowR
  rw [List.range_succ, List.filter_append, List.map_append]
  congr 1
  by_cases h : (k : Int) < some
  · simp [h]
  · simp [h]
theorem rowR_len (some : Int) (n : Nat) (l : List Int) : (rowR some n l).length ≤ n := by
  unfold rowR
  rw [List.length_map]
  have := List.length_filter_le (fun i : Nat => decide ((i : Int) < some)) (List.range n)
  simpa using this

theorem own_Only {w w' : World} {base g : Nat} {e : TypeId} {s n : Nat} {v : Value} {xs : List Value} (h : w.ownsRow base e s v n xs) (hb : Only g w w') (hg : g < base) : w'.ownsRow base e s v n xs := by
  refine ⟨h.1, ?_⟩
  rcases h.2 with h2 | ⟨k, cap, cur, hv, hbk, hh, r⟩
  · exact .inl h2
  · refine .inr ⟨k, cap, cur, hv, hbk, ?_, r⟩
    have hlt : k < w.heap.size := by
      rcases Nat.lt_or_ge k w.heap.size with hlt | hge
      · exact hlt
      · rw [Array.getElem?_eq_none hge] at hh; cases hh
    exact (hb.block k hlt (by omega)).trans hh
theorem Only.then_ {a w w' : World} {g : Nat} (h : Only g a w) (hb : Below a.heap.size w w') : Only g a w' :=
  ⟨hb.os.trans h.os, hb.tape.trans h.tape, hb.output.trans h.output, Nat.le_trans h.size hb.size, fun k hk hn => (hb.block k hk).trans (h.block k hk hn)⟩

set_option maxHeartbeats 8000000 in
set_option maxRecDepth 100000 in
theorem rdr_row (g b : Nat) (L : List Int) (m : Int) (n : Nat) (w : World) (h : RdrAt w g b L) (hn : n ≤ L.length) (hL : n ≤ 1048576) :
    Calls Tryz.prog 162 #[.pointer (some ⟨g, 0, none⟩), .int .i64 m, .int .i64 n] w fun e w' =>
      ∃ A c, e = .returned (.slice A (rowR m n L).length c) ∧ w'.ownsRow w.heap.size 3 1 (.slice A (rowR m n L).length c) (rowR m n L).length (ints (rowR m n L)) ∧ RdrAt w' g b (L.drop n) ∧ Only g w w' := by
  have HN := Lib.hid hn
  have HR0 := Lib.hid h
  clear hn h
  go_enter Tryz.func162, Tryz.ntmps162
  go_wp2_with fail
  go_loopg [7, 11] n (fun gg out i wr => ∃ (k : Nat) (A1 : Option Addr) (c1 : Nat), k ≤ n ∧ gg = n - k ∧ i = .int .i64 k ∧ out = .slice A1 (rowR m k L).length c1 ∧ wr.ownsRow w.heap.size 3 1 (.slice A1 (rowR m k L).length c1) (rowR m k L).length (ints (rowR m k L)) ∧ RdrAt wr g b (L.drop k) ∧ Only g w wr)
  case atStart => exact ⟨0, none, 0, Nat.zero_le _, rfl, rfl, rfl, own_nil _ _ _ _, by simpa using HR0.out, Only.refl _ _⟩
  case round =>
    obtain ⟨k, A1, c1, hk, hg, rfl, rfl, how, hr, ho⟩ := hrel
    have HG := Lib.hid hg
    have HO := Lib.hid how
    have HON := Lib.hid ho
    have hrl := rowR_len m k L
    have hgl := HR0.out.gl
    have hbl := HR0.out.bl
    by_cases hlt : k < n
    · have hkL : k < L.length := Nat.lt_of_lt_of_le hlt HN.out
      rw [drop_cons_getD hkL] at hr
      have HS := Lib.hid (rowR_succ m k L)
      have hbig := hr.big _ (List.mem_cons_self ..)
      have HNX := Lib.hid (rdr_next g b _ _ wr hr)
      clear hg how ho hr hkL
      generalize L.getD k 0 = x at *
      obtain ⟨u, rfl⟩ : ∃ u : Nat, x = u := ⟨x.toNat, by omega⟩
      have a32 := and32 u (by omega)
      have v0 : 0 ≤ (u : Int) % 4294967296 := by omega
      have v1 : (u : Int) % 4294967296 ≤ 4294967295 := by omega
      clear hbig
      by_cases hkm : (k : Int) < m
      · rw [if_pos hkm] at HS
        generalize hxs : rowR m (k + 1) L = ys at *
        generalize rowR m k L = xs at *
        generalize (u : Int) % 4294967296 = z at *
        have HYL : RowKit.Hid (ys.length = xs.length + 1) := Lib.hid (by rw [HS.out]; simp)
        go_wp2_with (first
          | (refine HNX.out.mono ?_; rintro er w1 ⟨rfl, hr1, ho1⟩; have HR1 := Lib.hid hr1; have HO1 := Lib.hid ho1; clear hr1 ho1)
          | (at_builtin; refine wpList_app rfl (.tmp 19) (.tmp 23) 22 3 rfl w.heap.size (.int .i64 0) 1 8 Tryz.underlying22 int_info rfl (by decide) A1 xs.length c1 (ints xs) rfl ((own_Only HO.out HO1.out hgl).alloc _) (some ⟨w1.heap.size, 0, none⟩) 1 1 (ints [z]) rfl (by simp) rfl (blk_new rfl).rd (ints_one _) (xs.length + 1) rfl (ints ys) (by rw [HS.out]; simp [ints]) (by unfold maxLen; omega) (by omega) (Nat.le_trans HON.out.size (Nat.le_trans HO1.out.size (by simp))) ?_; intro A2 c2 w2 hown2 hg2 hb2))
        go_roundg (n - (k + 1))
        case measure => rw [HG.out]; omega
        case rel =>
          have hsz : w.heap.size ≤ w1.heap.size := Nat.le_trans HON.out.size HO1.out.size
          have hB : Below w.heap.size w1 w2 := ((Below.refl w.heap.size w1).alloc hsz _).trans hb2
          refine ⟨k + 1, A2, c2, by omega, rfl, by go_num, ?_, ?_, HR1.out.low hB hgl hbl, (HON.out.trans HO1.out).then_ hB⟩
          · rw [hxs, HYL.out]
          · rw [hxs, HYL.out]; exact hown2
      · rw [if_neg hkm, List.append_nil] at HS
        go_wp2_with (first
          | (refine HNX.out.mono ?_; rintro er w1 ⟨rfl, hr1, ho1⟩; have HR1 := Lib.hid hr1; have HO1 := Lib.hid ho1; clear hr1 ho1))
        go_roundg (n - (k + 1))
        case measure => rw [HG.out]; omega
        case rel =>
          refine ⟨k + 1, A1, c1, by omega, rfl, by go_num, by rw [HS.out], ?_, HR1.out, HON.out.trans HO1.out⟩
          rw [HS.out]; exact own_Only HO.out HO1.out hgl
    · obtain rfl : k = n := by omega
      have HRK := Lib.hid hr
      clear hg how ho hr
      go_wp2_with fail
      go_ret
      exact ⟨A1, c1, rfl, HO.out, HRK.out, HON.out⟩

theorem resR_succ (k : Nat) (l : List Int) : resR (k + 1) l = resR k l ++ [rrI (l.getD k 0)] := by
  unfold resR
  rw [List.range_succ, List.map_append]
  rfl
theorem resR_len (k : Nat) (l : List Int) : (resR k l).length = k := by simp [resR]

set_option maxHeartbeats 8000000 in
set_option maxRecDepth 100000 in
theorem rdr_results (g b : Nat) (L : List Int) (n : Nat) (w : World) (h : RdrAt w g b L) (hn : n ≤ L.length) (hL : n ≤ 4096) :
    Calls Tryz.prog 137 #[.pointer (some ⟨g, 0, none⟩), .int .i64 n] w fun e w' =>
      ∃ A c, e = .returned (.slice A n c) ∧ w'.ownsRow w.heap.size 42 4 (.slice A n c) n (rows (resR n L)) ∧ RdrAt w' g b (L.drop n) ∧ Only g w w' := by
  have HN := Lib.hid hn
  have HR0 := Lib.hid h
  clear hn h
  go_enter Tryz.func137, Tryz.ntmps137
  go_wp2_with fail
  go_loopg [5, 7] n (fun gg out i wr => ∃ (k : Nat) (A1 : Option Addr) (c1 : Nat), k ≤ n ∧ gg = n - k ∧ i = .int .i64 k ∧ out = .slice A1 k c1 ∧ wr.ownsRow w.heap.size 42 4 (.slice A1 k c1) k (rows (resR k L)) ∧ RdrAt wr g b (L.drop k) ∧ Only g w wr)
  case atStart => exact ⟨0, none, 0, Nat.zero_le _, rfl, rfl, rfl, own_nil _ _ _ _, by simpa using HR0.out, Only.refl _ _⟩
  case round =>
    obtain ⟨k, A1, c1, hk, hg, rfl, rfl, how, hr, ho⟩ := hrel
    have HG := Lib.hid hg
    have HO := Lib.hid how
    have HON := Lib.hid ho
    have hgl := HR0.out.gl
    have hbl := HR0.out.bl
    by_cases hlt : k < n
    · have hkL : k < L.length := Nat.lt_of_lt_of_le hlt HN.out
      rw [drop_cons_getD hkL] at hr
      have HS := Lib.hid (resR_succ k L)
      have hbig := hr.big _ (List.mem_cons_self ..)
      have HNX := Lib.hid (rdr_next g b _ _ wr hr)
      clear hg how ho hr hkL
      generalize L.getD k 0 = x at *
      obtain ⟨u, rfl⟩ : ∃ u : Nat, x = u := ⟨x.toNat, by omega⟩
      have HRR := Lib.hid (fun W => ReadResult_any u (by omega) W)
      have hrr : rrOf u = rrI u := rfl
      rw [hrr] at HRR
      clear hbig hrr
      generalize rrI (u : Int) = r at *
      unfold rsV at HRR
      go_wp2_with (first
        | (refine HNX.out.mono ?_; rintro er w1 ⟨rfl, hr1, ho1⟩; have HR1 := Lib.hid hr1; have HO1 := Lib.hid ho1; clear hr1 ho1)
        | (refine (HRR.out _).mono ?_; rintro er w2 ⟨rfl, hb2⟩; have HB2 := Lib.hid hb2; clear hb2)
        | (at_builtin; refine wpList_app rfl (.tmp 9) (.tmp 13) 85 42 rfl w.heap.size (rsV Resr.none) 4 32 Tryz.underlying85 CloneRs_info rfl (by decide) A1 k c1 (rows (resR k L)) rfl ((own_below (own_Only HO.out HO1.out hgl) HB2.out).alloc _) (some ⟨w2.heap.size, 0, none⟩) 1 1 (rows [r]) rfl (by simp) rfl (blk_new rfl).rd (rows_one _) (k + 1) rfl (rows (resR (k + 1) L)) (by rw [HS.out, rows_append]) (by unfold maxLen; omega) (by omega) (Nat.le_trans HON.out.size (Nat.le_trans HO1.out.size (Nat.le_trans HB2.out.size (by simp)))) ?_; intro A2 c2 w3 hown2 hg2 hb3))
      go_roundg (n - (k + 1))
      case measure => rw [HG.out]; omega
      case rel =>
        have hsz : w.heap.size ≤ w1.heap.size := Nat.le_trans HON.out.size HO1.out.size
        have hB : Below w.heap.size w1 w3 := ((HB2.out.mono hsz).alloc (Nat.le_trans hsz HB2.out.size) _).trans hb3
        exact ⟨k + 1, A2, c2, by omega, rfl, by go_num, rfl, hown2, HR1.out.low hB hgl hbl, (HON.out.trans HO1.out).then_ hB⟩
    · obtain rfl : k = n := by omega
      have HRK := Lib.hid hr
      clear hg how ho hr
      go_wp2_with fail
      go_ret
      exact ⟨A1, c1, rfl, HO.out, HRK.out, HON.out⟩

end Go.Proofs.YtieglgahfeecbaaGreatDoor

namespace Go.Proofs.YtieglgahfeecbaaGreatDoor
open Go.RowKit Go.Sort

set_option maxHeartbeats 1000000 in
set_option maxRecDepth 100000 in
theorem WordsEq_any (A B : Option Addr) (c d : Nat) (l r : List Int) (w : World) (hl : l.length ≤ maxLen) (hr : r.length ≤ maxLen) (hA : Rd w A (words l)) (hB : Rd w B (words r)) :
    Calls Tryz.prog 138 #[.slice A l.length c, .slice B r.length d] w fun e w' => e = .returned (.bool (l == r)) ∧ Below w.heap.size w w' := by
  unfold maxLen at hl hr
  have HA := Lib.hid hA
  have HB := Lib.hid hB
  clear hA hB
  generalize hn : l.length = n at hl ⊢
  generalize hm : r.length = m at hr ⊢
  have HN := Lib.hid hn
  have HM := Lib.hid hm
  clear hn hm
  by_cases hnm : n = m
  · subst hnm
    go_enter Tryz.func138, Tryz.ntmps138
    go_wp2
    go_loopw [13] (fun i wr => ∃ k : Nat, k ≤ n ∧ i = .int .i64 k ∧ Below w.heap.size w wr ∧ l.take k = r.take k) (fun i _ => n - (intOf i).toNat)
    case atStart => exact ⟨0, Nat.zero_le _, rfl, Below.refl _ _, by simp⟩
    case round =>
      obtain ⟨k, hk, rfl, hb, ht⟩ := hrel
      have HBW := Lib.hid hb
      have HT := Lib.hid ht
      clear hb ht
      by_cases hlt : k < n
      · obtain ⟨a1, o1, rfl, hl1, hc1⟩ := HA.out.at_ (by rw [words_length, HN.out]; omega)
        obtain ⟨a2, o2, rfl, hl2, hc2⟩ := HB.out.at_ (by rw [words_length, HM.out]; omega)
        have x1 : wr.cell? ⟨a1, o1 + k, none⟩ = some (.int .u64 (l.getD k 0)) := by
          rw [HBW.out.cell (p := ⟨a1, o1 + k, none⟩) hl1]; exact hc1 k _ (words_at (by rw [HN.out]; exact hlt))
        have x2 : wr.cell? ⟨a2, o2 + k, none⟩ = some (.int .u64 (r.getD k 0)) := by
          rw [HBW.out.cell (p := ⟨a2, o2 + k, none⟩) hl2]; exact hc2 k _ (words_at (by rw [HM.out]; exact hlt))
        clear hc1 hc2
        have q1 : (0 : Int) ≤ (k : Int) := by omega
        have q2 : (k : Int) < (n : Int) := by omega
        generalize hx : l.getD k 0 = x at x1
        generalize hy : r.getD k 0 = y at x2
        have HX := Lib.hid hx
        have HY := Lib.hid hy
        clear hx hy
        by_cases hxy : x = y
        · subst hxy
          go_wp2
          go_quiet (fail)
          go_wp2
          refine ⟨⟨k + 1, by omega, by go_num, Below.drewN' HBW.out nq, ?_⟩, by simp [intOf]; omega⟩
          exact take_snoc_eq l r 0 k (by rw [HN.out]; exact hlt) (by rw [HM.out]; exact hlt) HT.out (by rw [HX.out, HY.out])
        · have hne : (x != y) = true := by simp [hxy]
          have HXY := Lib.hid hxy
          clear hxy
          go_wp2
          go_quiet (fail)
          go_wp2
          go_ret
          exact ⟨ret_bool (ne_of_getD l r 0 k (by rw [HX.out, HY.out]; exact HXY.out)).symm, Below.drewN' HBW.out nq⟩
      · go_wp2
        go_ret
        obtain rfl : k = n := by omega
        exact ⟨ret_bool (eq_of_take l r k HN.out HM.out HT.out).symm, HBW.out⟩
  · have h1 : ((n : Int) != (m : Int)) = true := by rw [bne_iff_ne]; omega
    have HNM := Lib.hid hnm
    clear hnm
    go_enter Tryz.func138, Tryz.ntmps138
    go_wp2
    go_ret
    exact ⟨ret_bool (ne_of_length l r (by rw [HN.out, HM.out]; exact HNM.out)).symm, Below.refl _ _⟩

end Go.Proofs.YtieglgahfeecbaaGreatDoor

namespace Go.Proofs.YtieglgahfeecbaaGreatDoor
open Go.RowKit Go.Sort

set_option maxHeartbeats 1000000 in
theorem wat_any (A : Option Addr) (n c : Nat) (t : Int) (w : World) :
    Calls Tryz.prog 212 #[.slice A n c, .int .i64 t] w fun e w' => e = .returned (.bool (decide (inL n t))) ∧ w' = w := by
  by_cases h1 : 0 ≤ t <;> by_cases h2 : t < (n : Int)
  all_goals
    go_enter Tryz.func212, Tryz.ntmps212
    go_wp2
    go_ret
    refine ⟨ret_bool ?_, rfl⟩
    unfold inL
    first | exact (decide_eq_true (by omega)).symm | exact (decide_eq_false (by omega)).symm | (simp only [h1, h2]; first | exact (decide_eq_true (by omega)).symm | exact (decide_eq_false (by omega)).symm)

theorem map_set_same {α β : Type} {f : α → β} {d : α} {l : List α} {k : Nat} (hk : k < l.length) {y : α} (h : f y = f (l.getD k d)) : (l.set k y).map f = l.map f := by
  rw [List.map_set, h]
  refine List.ext_getElem (by simp) fun i h1 h2 => ?_
  rw [List.getElem_set]
  split
  · rename_i he
    subst he
    simp [List.getD, hk]
  · rfl
theorem getD_set_eq {α : Type} {d : α} {l : List α} {k : Nat} (hk : k < l.length) (y : α) : (l.set k y).getD k d = y := by simp [List.getD, hk]
theorem getD_set_ne {α : Type} {d : α} {l : List α} {k j : Nat} (h : j ≠ k) (y : α) : (l.set k y).getD j d = l.getD j d := by
  have : k ≠ j := fun e => h e.symm
  simp [List.getD, this]

theorem wtr_set {l : List Wtr} {k : Nat} (hk : k < l.length) (A : Option Addr) (c : Nat) :
    (rows l).set (k * 4 + 3) (.slice A (l.getD k Wtr.none).cs.length c) = rows (l.set k ⟨(l.getD k Wtr.none).on, (l.getD k Wtr.none).ticket, (l.getD k Wtr.none).seq, A, c, (l.getD k Wtr.none).cs⟩) :=
  rows_set hk 3 _ _ (by decide) rfl

set_option maxHeartbeats 4000000 in
set_option maxRecDepth 100000 in
theorem wCopy_any (A : Option Addr) (n c : Nat) (l : List Wtr) (w : World) (h : WtsAt w A n l) :
    Calls Tryz.prog 169 #[.slice A n c] w (RetWts (l.map Wtr.p) w) := by
  obtain ⟨hl, hn, hR, hC, hcl, _⟩ := h
  have HL := Lib.hid hl
  have HC := Lib.hid hC
  have HCL := Lib.hid hcl
  have HCW := Lib.hid (fun W h => CloneWt_any A n c (rows l) W (by omega) (by rw [rows_length, hl]; rfl) (rows_one l) h)
  have HR := Lib.hid hR
  clear hl hR hC hcl
  go_enter Tryz.func169, Tryz.ntmps169
  go_wp2_with (refine (HCW.out _ HR.out).mono ?_; rintro er w1 ⟨A1, c1, rfl, hown1, hb1⟩)
  have HO1 := Lib.hid hown1
  have HB1 := Lib.hid hb1
  clear hown1 hb1 HCW
  go_loopg [9] n (fun gg i wr => ∃ (k : Nat) (ls : List Wtr), k ≤ n ∧ gg = n - k ∧ i = .int .i64 k ∧ ls.length = n ∧ ls.map Wtr.p = l.map Wtr.p ∧
    wr.ownsRow w.heap.size 128 4 (.slice A1 n c1) n (rows ls) ∧ (∀ j, k ≤ j → ls.getD j Wtr.none = l.getD j Wtr.none) ∧
    (∀ j, j < k → wr.ownsRow w.heap.size 100 3 (.slice (ls.getD j Wtr.none).A (ls.getD j Wtr.none).cs.length (ls.getD j Wtr.none).c) (ls.getD j Wtr.none).cs.length (rows (ls.getD j Wtr.none).cs)) ∧ Below w.heap.size w wr)
  case atStart => exact ⟨0, l, Nat.zero_le _, rfl, rfl, HL.out, rfl, HO1.out, fun _ _ => rfl, fun j hj => absurd hj (by omega), HB1.out⟩
  case round =>
    obtain ⟨k, ls, hk, hg, rfl, hls, hmp, hown, hsm, hdn, hb⟩ := hrel
    have HG := Lib.hid hg
    have HO := Lib.hid hown
    have HB := Lib.hid hb
    have HLS := Lib.hid hls
    have HMP := Lib.hid hmp
    have HSM := Lib.hid hsm
    have HDN := Lib.hid hdn
    clear hg hown hb hls hmp hsm hdn HO1 HB1
    by_cases hlt : k < n
    · have q1 : (k : Int) < ((n : Nat) : Int) := by omega
      have hkl : k < ls.length := by rw [HLS.out]; exact hlt
      obtain ⟨g, rfl, hg1, hg2⟩ := own_some HO.out (by omega)
      have hcell : wr.cell? ⟨g, k * 4 + 3, none⟩ = some (.slice (ls.getD k Wtr.none).A (ls.getD k Wtr.none).cs.length (ls.getD k Wtr.none).c) := by
        have := (wtr_cells (own_cellAt HO.out) hkl rfl).2.2.2
        rwa [Nat.zero_add] at this
      have hfz : ∀ i, wr.frozen? ⟨g, i, none⟩ = false := own_free HO.out
      have HX : RowKit.Hid (Rd wr (ls.getD k Wtr.none).A (rows (ls.getD k Wtr.none).cs) ∧ (ls.getD k Wtr.none).cs.length ≤ 1048576) := Lib.hid (by
        rw [HSM.out k (Nat.le_refl _)]
        have hm : l.getD k Wtr.none ∈ l := by rw [List.getD, List.getElem?_eq_getElem (by rw [HL.out]; exact hlt)]; exact List.getElem_mem _
        exact ⟨(HC.out _ hm).below HB.out, HCL.out _ hm⟩)
      have HCC := Lib.hid (CloneC_any (ls.getD k Wtr.none).A (ls.getD k Wtr.none).cs.length (ls.getD k Wtr.none).c (rows (ls.getD k Wtr.none).cs) wr (by have := HX.out.2; omega) (rows_length _) (rows_one _) HX.out.1)
      have HFZ := Lib.hid hfz
      have HKL := Lib.hid hkl
      clear hfz hkl
      generalize hx : ls.getD k Wtr.none = x at hcell HX HCC
      obtain ⟨on, tk, sq, XA, xc, cs⟩ := x
      simp only at hcell HX HCC
      have HXE := Lib.hid hx
      clear hx
      generalize hm : cs.length = m at *
      go_wp2_with (first
        | (refine HCC.out.mono ?_; rintro er w2 ⟨A2, c2, rfl, hown2, hb2⟩
           have HO2 := Lib.hid hown2
           have HB2 := Lib.hid hb2
           have f2 : w2.frozen? ⟨g, k * 4 + 3, none⟩ = false := (hb2.frozen (p := ⟨g, k * 4 + 3, none⟩) hg2).trans (HFZ.out _)
           have f3 : ∃ v, w2.cell? ⟨g, k * 4 + 3, none⟩ = some v := ⟨_, (hb2.cell (p := ⟨g, k * 4 + 3, none⟩) hg2).trans hcell⟩
           obtain ⟨v, f3⟩ := f3
           clear hown2 hb2))
      have HOW := Lib.hid (own_below HO.out HB2.out)
      obtain ⟨cur, hcur⟩ := own_blk HOW.out
      have HCU := Lib.hid hcur
      clear hcur
      go_roundg (n - (k + 1))
      case measure => rw [HG.out]; omega
      case rel =>
        have hkl := HKL.out
        have hxe := HXE.out
        have hcm : (⟨on, tk, sq, A2, c2, cs⟩ : Wtr).p = (ls.getD k Wtr.none).p := by rw [hxe]; rfl
        refine ⟨k + 1, ls.set k ⟨on, tk, sq, A2, c2, cs⟩, by omega, rfl, by go_num, by rw [List.length_set]; exact HLS.out, by rw [map_set_same hkl hcm]; exact HMP.out, ?_, fun j hj => by rw [getD_set_ne (by omega)]; exact HSM.out j (by omega), fun j hj => ?_, ?_⟩
        · refine own_put HOW.out (by omega) (k * 4 + 3) _ (by omega) ?_
          have e := wtr_set hkl A2 c2
          rw [hxe] at e
          simp only [hm] at e
          exact e
        · by_cases hjk : j = k
          · subst hjk
            rw [getD_set_eq hkl]
            simp only [hm]
            exact own_ty (own_lower HO2.out HB.out.size) HCU.out (by decide) _ _
          · rw [getD_set_ne hjk]
            exact own_ty (own_below (HDN.out j (by omega)) HB2.out) HCU.out (by decide) _ _
        · exact (HB.out.trans (HB2.out.mono HB.out.size)).setCell (p := ⟨g, k * 4 + 3, none⟩) hg1 _
    · obtain rfl : k = n := by omega
      have q1 : ¬ (k : Int) < (k : Int) := by omega
      go_wp2_with fail
      go_ret
      have hle : (l.map Wtr.p).length = k := by rw [List.length_map]; exact HL.out
      refine ⟨A1, c1, ls, by rw [hle]; rfl, HMP.out, ⟨by rw [hle]; exact HO.out, fun x hx => ?_⟩, HB.out⟩
      obtain ⟨j, hj, rfl⟩ := List.getElem_of_mem hx
      have := HDN.out j (by rw [← HLS.out]; exact hj)
      have e : ls.getD j Wtr.none = ls[j] := by simp [List.getD, hj]
      rw [e] at this
      exact this

end Go.Proofs.YtieglgahfeecbaaGreatDoor
