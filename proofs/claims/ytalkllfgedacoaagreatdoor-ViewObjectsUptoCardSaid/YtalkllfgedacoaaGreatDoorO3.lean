/- How shapes, names of nodes, words are opened, as arguments; the library's table. -/
import Derived.Test.YtalkllfgedacoaaGreatDoorO2
import Derived.IntWalk
import Derived.BigQuiet
import Derived.OwnWalk
import Derived.Lib.ItoaMem
import Derived.Laws.IdiomStrings
import Derived.Laws.Bits64b
import Derived.LaidMore
import Derived.Lib.LaidTab
import Derived.Lib.TrailingZeros
namespace Go.Proofs.YtalkllfgedacoaaGreatDoor
open Go.RowKit

structure Cfg where
  (kind threads chans cap nodes retire patience tags seqs gens : Int)
  (start : List Int)
  (sa : Option Addr)
  (sc : Nat)

abbrev cfgV (c : Cfg) : Value := .agg #[.int .i64 c.kind, .int .i64 c.threads, .int .i64 c.chans, .int .i64 c.cap, .int .i64 c.nodes, .int .i64 c.retire, .int .i64 c.patience, .int .i64 c.tags, .int .i64 c.seqs, .int .i64 c.gens, .slice c.sa c.start.length c.sc]

/-- The shape's slice lies in w. -/
def CfgIn (w : World) (c : Cfg) : Prop := Rd w c.sa (ints c.start) ∧ c.start.length ≤ maxLen

theorem CfgIn.below {w w' : World} {c : Cfg} (h : CfgIn w c) (hb : Below w.heap.size w w') : CfgIn w' c := ⟨h.1.below hb, h.2⟩
theorem CfgIn.alloc {w : World} {c : Cfg} (h : CfgIn w c) (o : Obj) : CfgIn (w.alloc o) c := ⟨h.1.alloc o, h.2⟩

def inB (n a b : Int) : Bool := decide (a ≤ n) && decide (n ≤ b)

def ownB (c : Cfg) : Bool :=
  if c.kind == 1 || c.kind == 2 then inB c.cap 1 16 && c.chans == 0 && c.gens == 0 && (c.start.length : Int) == 0
  else if c.kind == 3 then inB c.chans 1 8 && inB c.cap 0 8 && inB c.gens 1 4095 && decide ((c.start.length : Int) ≤ c.chans) && !(c.start.any fun n => !inB n 0 c.cap)
  else false

def chkB (c : Cfg) : Bool :=
  inB c.threads 1 64 && inB c.nodes 1 64 && inB c.retire 1 32 && inB c.patience 0 4 && inB c.tags 1 4294967295 && inB c.seqs 1 1048575 && ownB c

def chkE (c : Cfg) : Int := if chkB c = true then 0 else 1

set_option maxHeartbeats 400000 in
theorem in_any (n a b : Int) (w : World) :
    Calls Tryz.prog 162 #[.int .i64 n, .int .i64 a, .int .i64 b] w fun e w' => e = .returned (.bool (inB n a b)) ∧ w = w' := by
  unfold inB
  by_cases h1 : a ≤ n <;> by_cases h2 : n ≤ b
  all_goals
    go_enter Tryz.func162, Tryz.ntmps162
    go_wp2
    go_ret
    exact ⟨by simp [h1, h2], rfl⟩

set_option maxHeartbeats 400000 in
theorem own1_any (n m : Int) (b : Nat) (w : World) (hc : w.cell? ⟨b, 3, none⟩ = some (.int .i64 m)) :
    Calls Tryz.prog 182 #[.int .i64 n, .pointer (some ⟨b, 0, none⟩)] w fun e w' => e = .returned (.bool (!inB n 0 m)) ∧ Below w.heap.size w w' := by
  go_enter Tryz.func182, Tryz.ntmps182
  go_wp2_with (go_at_call 162; refine (in_any _ _ _ _).mono ?_; rintro e w' ⟨rfl, rfl⟩)
  go_ret
  exact ⟨rfl, Below.refl _ _⟩

theorem own1_enters : Enters 182 := enters_of Tryz.func182 (by kernel_rfl) (by kernel_rfl)

theorem own1_asks (m : Int) (b : Nat) (w : World) (l : List Int) (hlt : b < w.heap.size) (hc : w.cell? ⟨b, 3, none⟩ = some (.int .i64 m)) :
    Asks w 182 #[.pointer (some ⟨b, 0, none⟩)] (fun n => !inB n 0 m) l := by
  intro x _ w' hb'
  refine own1_any x m _ _ ?_
  rw [hb'.cell (p := ⟨b, 3, none⟩) hlt]
  exact hc

set_option maxHeartbeats 1000000 in
theorem own_any (c : Cfg) (w : World) (hcf : CfgIn w c) :
    Calls Tryz.prog 163 #[cfgV c] w fun e w' => e = .returned (.bool (ownB c)) ∧ Below w.heap.size w w' := by
  have HC := Lib.hid hcf
  clear hcf
  unfold cfgV
  by_cases k1 : c.kind = 1
  · have e1 : (c.kind == 1) = true := by simp [k1]
    have HK := Lib.hid k1
    clear k1
    go_enter Tryz.func163, Tryz.ntmps163
    go_wp2_with (go_at_call 162; refine (in_any _ _ _ _).mono ?_; rintro e w' ⟨rfl, rfl⟩)
    all_goals
      go_ret
      refine ⟨ret_bool ?_, (Below.refl _ _).alloc (Nat.le_refl _) _⟩
      simp [ownB, HK.out, *]
  by_cases k2 : c.kind = 2
  · have e1 : (c.kind == 1) = false := by simp [k2]
    have e2 : (c.kind == 2) = true := by simp [k2]
    have HK := Lib.hid k2
    clear k2
    go_enter Tryz.func163, Tryz.ntmps163
    go_wp2_with (go_at_call 162; refine (in_any _ _ _ _).mono ?_; rintro e w' ⟨rfl, rfl⟩)
    all_goals
      go_ret
      refine ⟨ret_bool ?_, (Below.refl _ _).alloc (Nat.le_refl _) _⟩
      simp [ownB, HK.out, *]
  by_cases k3 : c.kind = 3
  · have e1 : (c.kind == 1) = false := by simp [k1]
    have e2 : (c.kind == 2) = false := by simp [k2]
    have e3 : (c.kind == 3) = true := by simp [k3]
    have HK := Lib.hid k3
    clear k1 k2 k3
    go_enter Tryz.func163, Tryz.ntmps163
    go_wp2_with (first
      | (go_at_call 162; refine (in_any _ _ _ _).mono ?_; rintro e w' ⟨rfl, rfl⟩)
      | (go_at_call 181
         refine (ContainsFunc_any c.sa c.sc c.start 182 #[.pointer (some ⟨w.heap.size, 0, none⟩)] (fun n => !inB n 0 c.cap) _ HC.out.2 (HC.out.1.alloc _) own1_enters (own1_asks _ _ _ _ (by simp) (by simp))).mono ?_
         rintro e w1 ⟨rfl, hb1⟩))
    all_goals
      go_ret
      refine ⟨ret_bool ?_, ?_⟩
      · first | (simp [ownB, HK.out, *]; done) | (simp [ownB, HK.out, *]; intros; omega)
      · first | exact (Below.refl _ _).alloc (Nat.le_refl _) _ | exact ((Below.refl _ _).alloc (Nat.le_refl _) _).trans (hb1.mono (by simp))
  · have e1 : (c.kind == 1) = false := by simp [k1]
    have e2 : (c.kind == 2) = false := by simp [k2]
    have e3 : (c.kind == 3) = false := by simp [k3]
    have HK := Lib.hid (And.intro k1 (And.intro k2 k3))
    clear k1 k2 k3
    go_enter Tryz.func163, Tryz.ntmps163
    go_wp2
    go_ret
    refine ⟨ret_bool ?_, (Below.refl _ _).alloc (Nat.le_refl _) _⟩
    simp [ownB, HK.out.1, HK.out.2.1, HK.out.2.2]

set_option maxHeartbeats 1000000 in
theorem Check_any (c : Cfg) (w : World) (hcf : CfgIn w c) :
    Calls Tryz.prog 142 #[cfgV c] w fun e w' => e = .returned (.int .i64 (chkE c)) ∧ Below w.heap.size w w' := by
  have HC := Lib.hid hcf
  clear hcf
  unfold cfgV
  by_cases ho : ownB c = true
  all_goals
    go_enter Tryz.func142, Tryz.ntmps142
    go_wp2_with (first
      | (go_at_call 162; refine (in_any _ _ _ _).mono ?_; rintro e w' ⟨rfl, rfl⟩)
      | (go_at_call 163; refine (own_any c _ (HC.out.alloc _)).mono ?_; rintro e w1 ⟨rfl, hb1⟩))
    all_goals
      go_ret
      refine ⟨ret_int ?_, ?_⟩
      · simp [chkE, chkB, *]
      · first | exact (Below.refl _ _).alloc (Nat.le_refl _) _ | exact ((Below.refl _ _).alloc (Nat.le_refl _) _).trans (hb1.mono (by simp))

/-- The document's Check, over a loop. -/
theorem any_take_succ {p : Int → Bool} (l : List Int) (k : Nat) (h : k < l.length) : (l.take (k + 1)).any p = ((l.take k).any p || p (l.getD k 0)) := by
  rw [List.take_succ_eq_append_getElem h, List.any_append, List.any_cons, List.any_nil, Bool.or_false]
  simp only [List.getD, List.getElem?_eq_getElem h, Option.getD_some]

end Go.Proofs.YtalkllfgedacoaaGreatDoor

namespace Go.Proofs.YtalkllfgedacoaaGreatDoor
open Go.RowKit Go.Sort

structure Rf where
  (index tag : Int)
abbrev rfV (r : Rf) : Value := .agg #[.int .i64 r.index, .int .i64 r.tag]

def refGood (a b : Int) : Bool := decide (0 ≤ a) && decide (a ≤ 65534) && decide (1 ≤ b) && decide (b ≤ 4294967295)

set_option maxHeartbeats 4000000 in
set_option maxRecDepth 100000 in
theorem rfGood_any (a b : Int) (w : World) :
    Calls Tryz.prog 164 #[.agg #[.int .i64 a, .int .i64 b]] w fun e w' => e = .returned (.bool (refGood a b)) ∧ Below w.heap.size w w' := by
  have HG : RowKit.Hid (refGood a b = (decide (0 ≤ a) && decide (a ≤ 65534) && decide (1 ≤ b) && decide (b ≤ 4294967295))) := Lib.hid rfl
  generalize refGood a b = g at *
  rcases (show (a < 0) ∨ (0 ≤ a ∧ 65534 < a) ∨ (0 ≤ a ∧ a ≤ 65534 ∧ b < 1) ∨ (0 ≤ a ∧ a ≤ 65534 ∧ 1 ≤ b ∧ 4294967295 < b) ∨ (0 ≤ a ∧ a ≤ 65534 ∧ 1 ≤ b ∧ b ≤ 4294967295) by omega) with h1 | ⟨h1, h2⟩ | ⟨h1, h2, h3⟩ | ⟨h1, h2, h3, h4⟩ | ⟨h1, h2, h3, h4⟩
  case' inl => have HH := Lib.hid (show g = false by rw [HG.out]; simp; omega)
  case' inr.inl => have HH := Lib.hid (show g = false by rw [HG.out]; simp; omega)
  case' inr.inr.inl => have HH := Lib.hid (show g = false by rw [HG.out]; simp; omega)
  case' inr.inr.inr.inl => have HH := Lib.hid (show g = false by rw [HG.out]; simp; omega)
  case' inr.inr.inr.inr => have HH := Lib.hid (show g = true by rw [HG.out]; simp; omega)
  all_goals
    go_enter Tryz.func164, Tryz.ntmps164
    go_wp2
    go_ret
    refine ⟨ret_bool ?_, (Below.refl _ _).alloc (Nat.le_refl _) _⟩
    first | exact HH.out.symm | (rw [HH.out]; simp; done) | (rw [HH.out]; simp; omega)

theorem or16 {a b : Int} (h1 : 0 ≤ a) (h2 : a ≤ 65534) (h3 : 0 ≤ b) (h4 : b ≤ 4294967295) : bits BinOp.or IntKind.u64 (b * 65536) (a + 1) = b * 65536 + (a + 1) := by
  have e1 : b * 65536 = ((b.toNat * 65536 : Nat) : Int) := by omega
  have e2 : a + 1 = (((a + 1).toNat : Nat) : Int) := by omega
  rw [e1, e2, bits_or_u64_nat _ _ (by omega) (by omega)]
  have h5 : (a + 1).toNat < 2 ^ 16 := by omega
  rw [show b.toNat * 65536 = b.toNat <<< 16 by rw [Nat.shiftLeft_eq], ← Nat.shiftLeft_add_eq_or_of_lt h5]
  rw [Nat.shiftLeft_eq]; omega

def refWord (a b : Int) : Int := if refGood a b = true then b * 65536 + (a + 1) else 0

set_option maxHeartbeats 4000000 in
set_option maxRecDepth 100000 in
theorem rfWord_any (a b : Int) (w : World) :
    Calls Tryz.prog 146 #[.agg #[.int .i64 a, .int .i64 b]] w fun e w' => e = .returned (.int .u64 (refWord a b)) ∧ Below w.heap.size w w' := by
  have HG := Lib.hid (rfGood_any a b (w.alloc (.cells #[.int .i64 a, .int .i64 b] 26)))
  have HX := Lib.hid (Blk.new w 26 [.int .i64 a, .int .i64 b])
  have HV : RowKit.Hid (refWord a b = if refGood a b = true then b * 65536 + (a + 1) else 0) := Lib.hid rfl
  cases hg : refGood a b
  · rw [hg] at HG HV
    go_enter Tryz.func146, Tryz.ntmps146
    go_wp2_with (go_at_call 164; refine HG.out.mono ?_; rintro e w1 ⟨rfl, hb1⟩)
    go_ret
    exact ⟨ret_int (by rw [HV.out]; rfl), ((Below.refl _ _).alloc (Nat.le_refl _) _).trans (hb1.mono (by simp))⟩
  · rw [hg] at HG HV
    have hg' := hg
    simp only [refGood, Bool.and_eq_true, decide_eq_true_eq] at hg'
    obtain ⟨⟨⟨h1, h2⟩, h3⟩, h4⟩ := hg'
    clear hg
    go_enter Tryz.func146, Tryz.ntmps146
    go_wp2_with (go_at_call 164; refine HG.out.mono ?_; rintro e w1 ⟨rfl, hb1⟩; have y0 := (HX.out.below hb1 HX.out.lt).cell (i := 0) rfl; have y1 := (HX.out.below hb1 HX.out.lt).cell (i := 1) rfl)
    rw [or16 h1 h2 (Int.le_trans (by decide) h3) h4]
    go_ret
    exact ⟨ret_int (by rw [HV.out]; rfl), ((Below.refl _ _).alloc (Nat.le_refl _) _).trans (hb1.mono (by simp))⟩

/-- What a word names. -/
def rdOk (u : Nat) : Bool := decide (1 ≤ u % 65536) && decide (1 ≤ u / 65536) && decide (u / 65536 ≤ 4294967295)
def rdOf (u : Nat) : Rf := if rdOk u = true then ⟨(u % 65536 : Int) - 1, u / 65536⟩ else ⟨0, 0⟩

theorem rd_word (u : Nat) : (refWord ((u : Int) % 65536 - 1) ((u : Int) / 65536 % 4294967296) = u ∧ u ≠ 0) ↔ rdOk u = true := by
  unfold refWord refGood rdOk
  simp only [Bool.and_eq_true, decide_eq_true_eq]
  constructor
  · rintro ⟨h1, h2⟩
    split at h1 <;> omega
  · rintro ⟨⟨h1, h2⟩, h3⟩
    rw [if_pos (by omega)]
    omega

theorem ret_cell2 {fn : Func} {p u : Tmp} {ty : TypeId} (h : fn.results = #[.cell p ty, .tmp u]) {tmps : Array Value} {w : World} {g : Nat} {v x : Value} (ht : tmps.getD p undef = .pointer (some ⟨g, 0, none⟩)) (hu : tmps.getD u undef = x) (hl : (loadVar ty ⟨g, 0, none⟩).run Tryz.prog w = .ok v w) :
    (results fn tmps).run Tryz.prog w = .ok (.tuple #[v, x]) w := by
  have e1 : (results fn tmps).run Tryz.prog w = ((asAddr (tmps.getD p undef)).run Tryz.prog w).andThen fun a w₁ => ((loadVar ty a).run Tryz.prog w₁).andThen fun v w₂ => .ok (.tuple #[v, tmps.getD u undef]) w₂ := by
    simp only [results, h]
    simp
  rw [e1, ht, hu]
  have ha : (asAddr (.pointer (some ⟨g, 0, none⟩))).run Tryz.prog w = .ok ⟨g, 0, none⟩ w := by simp [asAddr, go_sem]
  rw [ha, Result.andThen_ok, hl, Result.andThen_ok]

theorem rf_load {w : World} {g : Nat} {r : Rf} (h : Blk w g 26 [.int .i64 r.index, .int .i64 r.tag]) : (loadVar 26 ⟨g, 0, none⟩).run Tryz.prog w = .ok (rfV r) w :=
  run_loadVar_row (P := Tryz.prog) w g 26 26 _ (0, 0) _ h Tryz.underlying26 rfl (by kernel_rfl)

theorem and16 (u : Nat) (h : u < 18446744073709551616) : bits BinOp.and IntKind.u64 (u : Int) 65535 = (u : Int) % 65536 := by
  have h1 := bits_and_u64_nat u 65535 h (by decide)
  have h2 : u &&& 65535 = u % 65536 := by
    have := Nat.and_two_pow_sub_one_eq_mod u 16
    simpa using this
  rw [h2] at h1
  exact h1.trans (by omega)
theorem and32 (u : Nat) (h : u < 18446744073709551616) : bits BinOp.and IntKind.u64 (u : Int) 4294967295 = (u : Int) % 4294967296 := by
  have h1 := bits_and_u64_nat u 4294967295 h (by decide)
  have h2 : u &&& 4294967295 = u % 4294967296 := by
    have := Nat.and_two_pow_sub_one_eq_mod u 32
    simpa using this
  rw [h2] at h1
  exact h1.trans (by omega)

set_option maxHeartbeats 4000000 in
set_option maxRecDepth 100000 in
theorem Read_any (u : Nat) (hu : u < 18446744073709551616) (w : World) :
    Calls Tryz.prog 119 #[.int .u64 u] w fun e w' => e = .returned (.tuple #[rfV (rdOf u), .bool (rdOk u)]) ∧ Below w.heap.size w w' := by
  have f1 := and16 u hu
  have f2 := and32 (u / 65536) (by omega)
  rw [show ((u / 65536 : Nat) : Int) = (u : Int) / 65536 by omega] at f2
  have HR := Lib.hid (rd_word u)
  have HO : RowKit.Hid (rdOf u = if rdOk u = true then ⟨(u % 65536 : Int) - 1, u / 65536⟩ else ⟨0, 0⟩) := Lib.hid rfl
  have HX : RowKit.Hid (rdOk u = true → (u : Int) / 65536 % 4294967296 = (u : Int) / 65536) := Lib.hid (by unfold rdOk; simp only [Bool.and_eq_true, decide_eq_true_eq]; omega)
  have p1 : 0 ≤ (u : Int) % 65536 := by omega
  have p2 : (u : Int) % 65536 < 65536 := by omega
  have p3 : 0 ≤ (u : Int) / 65536 % 4294967296 := by omega
  have p4 : (u : Int) / 65536 % 4294967296 < 4294967296 := by omega
  generalize hx : (u : Int) % 65536 = x at *
  generalize hy : (u : Int) / 65536 % 4294967296 = y at *
  have HW := Lib.hid (fun W => rfWord_any (x - 1) y W)
  generalize hrw : refWord (x - 1) y = rw_ at *
  have HB0 := Lib.hid (((Below.refl w.heap.size w).alloc (Nat.le_refl _) (.cells #[.int .i64 0, .int .i64 0] 26)).alloc (by simp) (.cells #[.int .i64 (x - 1), .int .i64 y] 26))
  have HBX := Lib.hid (show Blk ((w.alloc (.cells #[.int .i64 0, .int .i64 0] 26)).alloc (.cells #[.int .i64 (x - 1), .int .i64 y] 26)) w.heap.size 26 [.int .i64 0, .int .i64 0] from (Blk.new w _ _).alloc _)
  have HBY := Lib.hid (show Blk ((w.alloc (.cells #[.int .i64 0, .int .i64 0] 26)).alloc (.cells #[.int .i64 (x - 1), .int .i64 y] 26)) (w.heap.size + 1) 26 [.int .i64 (x - 1), .int .i64 y] from blk_new (by simp))
  cases hok : rdOk u
  case' true =>
    rw [hok] at HR HO HX
    have hr := HR.out.2 rfl
    obtain ⟨hr1, hr2⟩ := hr
    have b1 : (rw_ != (u : Int)) = false := by rw [hr1]; simp
    have b2 : ((u : Int) == 0) = false := by simp; omega
    have HV := Lib.hid (show rfV (rdOf u) = .agg #[.int .i64 (x - 1), .int .i64 y] by rw [HO.out, if_pos rfl, HX.out rfl])
  case' false =>
    rw [hok] at HR HO HX
    have hr := fun h => (HR.out.1 h)
    have HV := Lib.hid (show rfV (rdOf u) = .agg #[.int .i64 0, .int .i64 0] by rw [HO.out]; rfl)
    have HQ := Lib.hid (show (rw_ != (u : Int)) = true ∨ ((rw_ != (u : Int)) = false ∧ ((u : Int) == 0) = true) by
      by_cases hc : rw_ = (u : Int)
      · right; refine ⟨by simp [hc], ?_⟩
        by_cases hz : u = 0
        · simp [hz]
        · exact absurd (hr ⟨hc, hz⟩) (by decide)
      · left; simpa using hc)
  case true =>
    clear hr1 hr2 hok hx hy hrw
    go_enter Tryz.func119, Tryz.ntmps119
    go_wp2_with fail
    refine (HW.out _).mono ?_
    rintro e w1 ⟨rfl, hb1⟩
    have HB1 := Lib.hid (HB0.out.trans (hb1.mono HB0.out.size))
    have HX1 := Lib.hid (HBX.out.below hb1 HBX.out.lt)
    have HY1 := Lib.hid (HBY.out.below hb1 HBY.out.lt)
    have y0 := HY1.out.cell (i := 0) rfl
    have y1 := HY1.out.cell (i := 1) rfl
    have x0 := HX1.out.frozen 0
    have x1 := HX1.out.frozen 1
    have z0 := HX1.out.cell (i := 0) rfl
    have z1 := HX1.out.cell (i := 1) rfl
    clear hb1
    go_wp2
    have hl : Blk ((w1.setCell ⟨w.heap.size, 0, none⟩ (.int .i64 (x - 1))).setCell ⟨w.heap.size, 1, none⟩ (.int .i64 y)) w.heap.size 26 [.int .i64 (x - 1), .int .i64 y] := (HX1.out.set_ 0 (.int .i64 (x - 1))).set_ 1 (.int .i64 y)
    refine bodyPost_ret (v := .tuple #[.agg #[.int .i64 (x - 1), .int .i64 y], .bool true]) (ret_cell2 (g := w.heap.size) (v := .agg #[.int .i64 (x - 1), .int .i64 y]) rfl rfl rfl (rf_load (r := ⟨x - 1, y⟩) hl)) rfl ⟨?_, ?_⟩
    · rw [HV.out]
    · exact (HB1.out.setCell (p := ⟨w.heap.size, 0, none⟩) (Nat.le_refl _) _).setCell (p := ⟨w.heap.size, 1, none⟩) (Nat.le_refl _) _
  case false =>
    clear hr hok hx hy hrw
    rcases HQ.out with b1 | ⟨b1, b2⟩
    all_goals
      go_enter Tryz.func119, Tryz.ntmps119
      go_wp2_with fail
      refine (HW.out _).mono ?_
      rintro e w1 ⟨rfl, hb1⟩
      have HB1 := Lib.hid (HB0.out.trans (hb1.mono HB0.out.size))
      have HX1 := Lib.hid (HBX.out.below hb1 HBX.out.lt)
      have HY1 := Lib.hid (HBY.out.below hb1 HBY.out.lt)
      have y0 := HY1.out.cell (i := 0) rfl
      have y1 := HY1.out.cell (i := 1) rfl
      have x0 := HX1.out.frozen 0
      have x1 := HX1.out.frozen 1
      have z0 := HX1.out.cell (i := 0) rfl
      have z1 := HX1.out.cell (i := 1) rfl
      clear hb1
      go_wp2
      have hl : Blk ((w1.setCell ⟨w.heap.size, 0, none⟩ (.int .i64 0)).setCell ⟨w.heap.size, 1, none⟩ (.int .i64 0)) w.heap.size 26 [.int .i64 0, .int .i64 0] := (HX1.out.set_ 0 (.int .i64 0)).set_ 1 (.int .i64 0)
      refine bodyPost_ret (v := .tuple #[.agg #[.int .i64 0, .int .i64 0], .bool false]) (ret_cell2 (g := w.heap.size) (v := .agg #[.int .i64 0, .int .i64 0]) rfl rfl rfl (rf_load (r := ⟨0, 0⟩) hl)) rfl ⟨?_, ?_⟩
      · rw [HV.out]
      · exact (HB1.out.setCell (p := ⟨w.heap.size, 0, none⟩) (Nat.le_refl _) _).setCell (p := ⟨w.heap.size, 1, none⟩) (Nat.le_refl _) _

end Go.Proofs.YtalkllfgedacoaaGreatDoor

namespace Go.Proofs.YtalkllfgedacoaaGreatDoor
open Go.RowKit Go.Sort Go.Lib

def udecS (u : Nat) : ByteArray := ⟨(Lib.decDigits u).toArray⟩

theorem holds_zero0 (w : World) (T : TypeId) (nd : Nat) (hs : nd ≤ 24) : Holds (fun (b : UInt8) => Value.int .u8 (b.toNat : Int)) (w.alloc (.cells zeros24 T)) w.heap.size 0 (Array.replicate nd (0 : UInt8)) := fun j hj => by
  have hj' : j < nd := by simpa using hj
  refine ⟨?_, World.frozen?_alloc_new _ _ _ _⟩
  rw [World.cell?_alloc_new, Nat.zero_add, zeros24_at _ (by omega), getElem!_pos _ j hj]
  simp

theorem below_put0 (w : World) (o : Obj) (dk : Array UInt8) (k : Nat) : Below w.heap.size w ((putRow (fun (b : UInt8) => Value.int .u8 (b.toNat : Int)) (w.alloc o) w.heap.size 0 dk).drewN k) := by
  have h : ∃ os, (putRow (fun (b : UInt8) => Value.int .u8 (b.toNat : Int)) (w.alloc o) w.heap.size 0 dk).drewN k = grow (w.drewN k) os := by
    rw [alloc_eq_grow]
    obtain ⟨os', _, e⟩ := putRow_grow_new (fun (b : UInt8) => Value.int .u8 (b.toNat : Int)) w #[o] w.heap.size 0 dk (Nat.le_refl _)
    exact ⟨os', by rw [e]; rfl⟩
  obtain ⟨os, e⟩ := h
  rw [e]
  exact Lib.below_grow _ _ (Nat.le_refl _) _ _

set_option maxHeartbeats 6400000 in
set_option maxRecDepth 100000 in
theorem FmtU10 (u : Nat) (hu64 : u < 18446744073709551616) (w : World) (ht : TabT w) :
    Calls Tryz.prog 121 #[.int .u64 u, .int .i64 10] w fun e w' => e = .returned (.string (udecS u)) ∧ Below w.heap.size w w' := by
  by_cases hs : u < 100
  · go_enter Tryz.func121, Tryz.ntmps121
    go_wp2_with (go_at_call 147; refine (Tryz.internal_strconv_small u hs _).mono ?_; rintro e w' ⟨rfl, rfl⟩)
    go_ret
    exact ⟨rfl, Below.refl _ _⟩
  · have hu1 : 1 ≤ u := by omega
    have hnd20 : Lib.nDigits u ≤ 20 := Lib.nDigits_le20 u hu64
    have hal : Tryz.prog.arrayLen 213 = 24 := by kernel_rfl
    have hsl : ∀ W, (Instr.sliceAt 213 (.pointer (some ⟨w.heap.size, 0, none⟩)) none (some (.int .i64 (Lib.nDigits u : Int))) none).run Tryz.prog W = .ok (.slice (some ⟨w.heap.size, 0, none⟩) (Lib.nDigits u) 24) W := fun W => by
      rw [run_sliceAt_array_h W 213 ⟨w.heap.size, 0, none⟩ (by simp [Program.arrayLen, Program.elem, Tryz.underlying213]) .i64 (Lib.nDigits u : Int) (by omega) (by rw [hal]; omega)]
      go_simp
    have hH0 := holds_zero0 w 213 (Lib.nDigits u) (by omega)
    have hfmt := Tryz.internal_strconv_formatBase10 w.heap.size 0 24 u (Array.replicate (Lib.nDigits u) 0) (w.alloc (.cells Lib.zeros24 213)) hH0 (by rw [Array.size_replicate]; exact Lib.lt_pow_nDigits u) hu64 (by rw [Array.size_replicate]; omega)
    rw [Array.size_replicate] at hfmt
    have HH0 := Lib.hid hH0
    have HF := Lib.hid hfmt
    clear hH0 hal hfmt
    go_enter Tryz.func121, Tryz.ntmps121
    go_wp2_with (first | (go_at_call 148; refine (Tryz.internal_strconv_numDigits u hu1 hu64 _ (Lib.tabIs_alloc ht _)).mono ?_; rintro e w' ⟨rfl, rfl⟩))
    go_at_call 149
    refine HF.out.mono ?_
    rintro e w' ⟨rfl, k, v', dk, rfl, hF⟩
    have hcv : (convert 114 9 (.slice (some ⟨w.heap.size, 0, none⟩) (Lib.nDigits u) 24)).run Tryz.prog ((putRow (fun (b : UInt8) => Value.int .u8 (b.toNat : Int)) (w.alloc (.cells Lib.zeros24 213)) w.heap.size 0 dk).drewN k) = .ok (.string ⟨(Lib.decDigits u).toArray⟩) ((putRow (fun (b : UInt8) => Value.int .u8 (b.toNat : Int)) (w.alloc (.cells Lib.zeros24 213)) w.heap.size 0 dk).drewN k) := by
      have h := run_convert_bytes_back (P := Tryz.prog) ((putRow (fun (b : UInt8) => Value.int .u8 (b.toNat : Int)) (w.alloc (.cells Lib.zeros24 213)) w.heap.size 0 dk).drewN k) 114 9 5 ⟨w.heap.size, 0, none⟩ 24 (Lib.decDigits u) Tryz.underlying114 Tryz.underlying5 Tryz.underlying9 (fun j hj => by
        rw [Lib.row_is_numeral hF j hj, Lib.add_plain, World.cell?_drewN]
        exact cell?_putRow (fun (b : UInt8) => Value.int .u8 (b.toNat : Int)) _ w.heap.size 0 _ dk HH0.out (by rw [hF.size, Array.size_replicate]) j (by rw [hF.size]; rw [Lib.decDigits_length] at hj; exact hj))
      rw [Lib.decDigits_length] at h
      exact h
    have HB := Lib.hid (below_put0 w (.cells Lib.zeros24 213) dk k)
    go_wp2
    go_ret
    exact ⟨rfl, HB.out⟩

theorem FormatUint10 (u : Nat) (hu64 : u < 18446744073709551616) (w : World) (ht : TabT w) :
    Calls Tryz.prog 76 #[.int .u64 u, .int .i64 10] w fun e w' => e = .returned (.string (udecS u)) ∧ Below w.heap.size w w' := by
  have HF := Lib.hid (FmtU10 u hu64 w ht)
  go_enter Tryz.func76, Tryz.ntmps76
  go_wp2_with (go_at_call 121; refine HF.out.mono ?_; rintro e w' ⟨rfl, hb⟩)
  go_ret
  exact ⟨rfl, hb⟩

end Go.Proofs.YtalkllfgedacoaaGreatDoor

namespace Go.Proofs.YtalkllfgedacoaaGreatDoor
open Go.RowKit Go.Sort Go.Lib

/-- The one cell of the library's table that is read for base 16. -/
def Tz16 (w : World) : Prop := 8 < w.heap.size ∧ w.cell? ⟨8, 15, none⟩ = some (.int .u8 4)
theorem Tz16.below {w w' : World} (h : Tz16 w) (hb : Below w.heap.size w w') : Tz16 w' := ⟨Nat.lt_of_lt_of_le h.1 hb.size, by rw [hb.cell (p := ⟨8, 15, none⟩) h.1]; exact h.2⟩

def hexd (d : Nat) : UInt8 := if d < 10 then UInt8.ofNat (48 + d) else UInt8.ofNat (87 + d)
def hexDigits (u : Nat) : List UInt8 := if _h : u < 16 then [hexd u] else hexDigits (u / 16) ++ [hexd (u % 16)]
  termination_by u
  decreasing_by omega
def hexS (u : Nat) : ByteArray := ⟨(hexDigits u).toArray⟩

set_option maxHeartbeats 1000000 in
theorem isPow16 (w : World) : Calls Tryz.prog 168 #[.int .i64 16] w fun e w' => e = .returned (.bool true) ∧ w = w' := by
  go_enter Tryz.func168, Tryz.ntmps168
  go_wp2
  go_ret
  exact ⟨rfl, rfl⟩

set_option maxHeartbeats 1000000 in
theorem tz16_64 (w : World) (h : Tz16 w) : Calls Tryz.prog 184 #[.int .u64 16] w fun e w' => e = .returned (.int .i64 4) ∧ w = w' := by
  have hc := h.2
  have b1 : bits BinOp.and IntKind.u64 16 (IntKind.u64.wrap (-16)) = 16 := by decide +kernel
  have w1 : IntKind.u64.wrap (16 * 285870213051353865) = 4573923408821661840 := by decide +kernel
  go_enter Tryz.func184, Tryz.ntmps184
  go_wp2
  go_ret
  exact ⟨rfl, rfl⟩

set_option maxHeartbeats 1000000 in
theorem tz16 (w : World) (h : Tz16 w) : Calls Tryz.prog 169 #[.int .u64 16] w fun e w' => e = .returned (.int .i64 4) ∧ w = w' := by
  go_enter Tryz.func169, Tryz.ntmps169
  go_wp2_with (first | (go_at_call 184; refine (tz16_64 _ h).mono ?_; rintro e w' ⟨rfl, rfl⟩))
  go_ret
  exact ⟨rfl, rfl⟩

theorem hexd_at (d : Nat) (h : d < 16) : (⟨#[48, 49, 50, 51, 52, 53, 54, 55, 56, 57, 97, 98, 99, 100, 101, 102, 103, 104, 105, 106, 107, 108, 109, 110, 111, 112, 113, 114, 115, 116, 117, 118, 119, 120, 121, 122]⟩ : ByteArray).data[d]? = some (hexd d) := by
  have : ∀ d : Fin 16, (⟨#[48, 49, 50, 51, 52, 53, 54, 55, 56, 57, 97, 98, 99, 100, 101, 102, 103, 104, 105, 106, 107, 108, 109, 110, 111, 112, 113, 114, 115, 116, 117, 118, 119, 120, 121, 122]⟩ : ByteArray).data[(d : Nat)]? = some (hexd d) := by decide +kernel
  exact this ⟨d, h⟩

theorem hexd_get (d : Nat) (h : d < 16) (h' : d < (⟨#[48, 49, 50, 51, 52, 53, 54, 55, 56, 57, 97, 98, 99, 100, 101, 102, 103, 104, 105, 106, 107, 108, 109, 110, 111, 112, 113, 114, 115, 116, 117, 118, 119, 120, 121, 122]⟩ : ByteArray).size) : (⟨#[48, 49, 50, 51, 52, 53, 54, 55, 56, 57, 97, 98, 99, 100, 101, 102, 103, 104, 105, 106, 107, 108, 109, 110, 111, 112, 113, 114, 115, 116, 117, 118, 119, 120, 121, 122]⟩ : ByteArray)[d] = hexd d := by
  have h1 := hexd_at d h
  obtain ⟨h2, h3⟩ := Array.getElem?_eq_some_iff.1 h1
  exact h3

theorem and15 (u : Nat) (h : u < 18446744073709551616) : bits BinOp.and IntKind.u64 (u : Int) 15 = ((u % 16 : Nat) : Int) := by
  have h1 := bits_and_u64_nat u 15 h (by decide)
  have h2 : u &&& 15 = u % 16 := by
    have := Nat.and_two_pow_sub_one_eq_mod u 4
    simpa using this
  rw [h2] at h1
  exact h1

/-- The digits of u, ahead of those that are there. -/
theorem hex_step {u : Nat} (h : 16 ≤ u) : hexDigits u = hexDigits (u / 16) ++ [hexd (u % 16)] := by
  rw [hexDigits, dif_neg (by omega)]
theorem hex_last {u : Nat} (h : u < 16) : hexDigits u = [hexd u] := by
  rw [hexDigits, dif_pos h]
theorem hex_length : ∀ (n u : Nat), u < 16 ^ (n + 1) → (hexDigits u).length ≤ n + 1
  | 0, u, h => by rw [hex_last (by simpa using h)]; simp
  | n + 1, u, h => by
    by_cases h16 : u < 16
    · rw [hex_last h16]; simp
    · rw [hex_step (by omega)]
      have := hex_length n (u / 16) (by rw [Nat.div_lt_iff_lt_mul (by decide)]; rw [Nat.pow_succ] at h; exact h)
      simp; omega

def u8s (l : List UInt8) : List Value := l.map fun b => Value.int .u8 (b.toNat : Int)

theorem drop_set_one {l : List Value} {i : Nat} (h : i < l.length) (v : Value) : (l.set i v).drop i = v :: l.drop (i + 1) := by
  rw [List.drop_eq_getElem_cons (by simpa using h)]
  simp [List.drop_set_of_lt]

theorem zero65 : Tryz.zeroCells235 = (List.replicate 65 (Value.int .u8 0)).toArray := by kernel_rfl

set_option maxHeartbeats 8000000 in
set_option maxRecDepth 100000 in
theorem fmtBits16 (u : Nat) (hu : u < 18446744073709551616) (w : World) (ht : Tz16 w) :
    Calls Tryz.prog 150 #[.slice none 0 0, .int .u64 u, .int .i64 16, .bool false, .bool false] w fun e w' => e = .returned (.tuple #[.slice none 0 0, .string (hexS u)]) ∧ Below w.heap.size w w' := by
  have hlen := hex_length 15 u (by simpa using hu)
  have HT := Lib.hid ht
  have HU : RowKit.Hid (hexS u = ⟨(hexDigits u).toArray⟩) := Lib.hid rfl
  generalize hd : hexDigits u = D at *
  have HD := Lib.hid hd
  have HLN := Lib.hid hlen
  clear hd hlen
  have HB0 := Lib.hid (show Blk (w.alloc (.cells Tryz.zeroCells235 235)) w.heap.size 235 (List.replicate 65 (Value.int .u8 0)) from by rw [zero65]; exact Blk.new w _ _)
  have HW0 := Lib.hid ((Below.refl w.heap.size w).alloc (Nat.le_refl _) (.cells Tryz.zeroCells235 235))
  go_enter Tryz.func150, Tryz.ntmps150
  go_wp2_with (first | (go_at_call 168; refine (isPow16 _).mono ?_; rintro e w2 ⟨rfl, rfl⟩) | (go_at_call 169; refine (tz16 _ (HT.out.below ((Below.refl _ _).alloc (Nat.le_refl _) _))).mono ?_; rintro e w3 ⟨rfl, rfl⟩))
  generalize hg : w.heap.size = gb at *
  have HGB := Lib.hid hg
  generalize w.alloc (.cells Tryz.zeroCells235 235) = w1 at *
  clear hg
  go_loopg [1, 13] u (fun g uv i wr => ∃ (v k : Nat) (ds : List UInt8) (cs : List Value), g = v ∧ v < 18446744073709551616 ∧ uv = .int .u64 v ∧ i = .int .i64 k ∧ D = hexDigits v ++ ds ∧ k + ds.length = 65 ∧ cs.length = 65 ∧ cs.drop k = u8s ds ∧ Blk wr gb 235 cs ∧ Below gb w wr)
  case atStart => exact ⟨u, 65, [], _, rfl, hu, rfl, rfl, by rw [HD.out]; simp, rfl, by simp, by simp [u8s], HB0.out, HW0.out⟩
  case round =>
    obtain ⟨v, k, ds, cs, hgv, hv, rfl, rfl, hD, hkd, hcl, hcd, hblk, hb⟩ := hrel
    have HG := Lib.hid hgv
    have HDD := Lib.hid hD
    have HCL := Lib.hid hcl
    have HCD := Lib.hid hcd
    have HKD := Lib.hid hkd
    have HBK := Lib.hid hblk
    have HB := Lib.hid hb
    have hk1 : 49 ≤ k := by
      have h1 := HLN.out; rw [hD, List.length_append] at h1; omega
    have hk2 : k ≤ 65 := by omega
    clear hgv hD hcl hcd hblk hb hkd
    have h65 : k - 1 < cs.length := by rw [HCL.out]; omega
    have hcell := HBK.out.cell (i := k - 1) (v := cs[k - 1]) (List.getElem?_eq_getElem h65)
    have hfz := HBK.out.frozen (k - 1)
    have w1' : IntKind.i64.wrap ((k : Int) - 1) = ((k - 1 : Nat) : Int) := by rw [show (k : Int) - 1 = ((k - 1 : Nat) : Int) by omega]; exact IntWalk.i64_in _ (by omega)
    have q1 : (0 : Int) ≤ ((k - 1 : Nat) : Int) := by omega
    have q2 : ((k - 1 : Nat) : Int) < 65 := by omega
    by_cases h16 : 16 ≤ v
    · have t0 : ((16 : Int) ≤ (v : Int)) := by omega
      have a1 := and15 v hv
      have hx := hexd_at (v % 16) (by omega)
      have q3 : (0 : Int) ≤ ((v % 16 : Nat) : Int) := by omega
      have q4 : ((v % 16 : Nat) : Int) < 36 := by omega
      clear hx
      have HX := Lib.hid (hexd_get (v % 16) (by omega))
      go_wp2
      go_roundg (v / 16)
      case measure => rw [HG.out]; omega
      case rel =>
        refine ⟨v / 16, k - 1, hexd (v % 16) :: ds, cs.set (k - 1) _, rfl, by omega, by simp, rfl, by rw [HDD.out, hex_step h16]; simp, by have := HKD.out; simp; omega, by rw [List.length_set]; exact HCL.out, ?_, HBK.out.set_ _ _, HB.out.setCell (p := ⟨gb, k - 1, none⟩) (Nat.le_refl _) _⟩
        rw [drop_set_one h65, show k - 1 + 1 = k by omega, HCD.out, HX.out (Nat.lt_of_lt_of_le (Nat.mod_lt v (by decide : 0 < 16)) (by decide))]
        rfl
    · have t0 : ¬ ((16 : Int) ≤ (v : Int)) := by omega
      have HX := Lib.hid (hexd_get v (by omega))
      have q3 : (0 : Int) ≤ (v : Int) := by omega
      have q4 : (v : Int) < 36 := by omega
      have hal : Tryz.prog.arrayLen 235 = 65 := by kernel_rfl
      have hsl : ∀ W, (Instr.sliceAt 235 (.pointer (some ⟨gb, 0, none⟩)) (some (.int .i64 ((k - 1 : Nat) : Int))) none none).run Tryz.prog W = .ok (.slice (some ⟨gb, k - 1, none⟩) (65 - (k - 1)) (65 - (k - 1))) W := fun W => by
        rw [run_sliceAt_array_l W 235 ⟨gb, 0, none⟩ (by simp [Program.arrayLen, Program.elem, Tryz.underlying235]) .i64 ((k - 1 : Nat) : Int) (by omega) (by rw [hal]; omega)]
        rw [hal]
        go_simp
        omega
      clear hal
      have hfin := HBK.out.set_ (k - 1) (.int .u8 ((hexd v).toNat : Int))
      have hrest := drop_set_one h65 (.int .u8 ((hexd v).toNat : Int))
      rw [show k - 1 + 1 = k by omega, HCD.out] at hrest
      have hDl : D.length = 65 - (k - 1) := by have := HKD.out; rw [HDD.out, hex_last (by omega)]; simp; omega
      have hcv : (convert 114 9 (.slice (some ⟨gb, k - 1, none⟩) (65 - (k - 1)) (65 - (k - 1)))).run Tryz.prog (wr.setCell ⟨gb, k - 1, none⟩ (.int .u8 ((hexd v).toNat : Int))) = .ok (.string ⟨D.toArray⟩) (wr.setCell ⟨gb, k - 1, none⟩ (.int .u8 ((hexd v).toNat : Int))) := by
        have h := run_convert_bytes_back (P := Tryz.prog) (wr.setCell ⟨gb, k - 1, none⟩ (.int .u8 ((hexd v).toNat : Int))) 114 9 5 ⟨gb, k - 1, none⟩ (65 - (k - 1)) D Tryz.underlying114 Tryz.underlying5 Tryz.underlying9 (fun j hj => by
          have e1 : (Addr.add ⟨gb, k - 1, none⟩ j) = ⟨gb, k - 1 + j, none⟩ := Lib.add_plain _ _ _
          rw [e1]
          refine hfin.cell ?_
          have e2 : ((cs.set (k - 1) (.int .u8 ((hexd v).toNat : Int))).drop (k - 1))[j]? = (u8s D)[j]? := by
            rw [hrest, HDD.out, hex_last (by omega)]; rfl
          rw [List.getElem?_drop] at e2
          rw [e2]
          simp [u8s, hj])
        rw [hDl] at h
        exact h
      have HF := Lib.hid (HB.out.setCell (p := ⟨gb, k - 1, none⟩) (Nat.le_refl _) (.int .u8 ((hexd v).toNat : Int)))
      have HCV := Lib.hid hcv
      clear hcv hfin hrest hDl
      go_wp2
      rw [HX.out _, HCV.out]
      go_wp2
      go_ret2
      exact ⟨by rw [HU.out]; rfl, HF.out.mono (Nat.le_of_eq HGB.out)⟩

theorem HexU16 (u : Nat) (hu : u < 18446744073709551616) (w : World) (ht : Tz16 w) :
    Calls Tryz.prog 121 #[.int .u64 u, .int .i64 16] w fun e w' => e = .returned (.string (hexS u)) ∧ Below w.heap.size w w' := by
  have HF := Lib.hid (fmtBits16 u hu w ht)
  clear ht
  go_enter Tryz.func121, Tryz.ntmps121
  go_wp2_with (go_at_call 150; refine HF.out.mono ?_; rintro e w' ⟨rfl, hb⟩)
  go_ret
  exact ⟨rfl, hb⟩

theorem FormatUint16 (u : Nat) (hu : u < 18446744073709551616) (w : World) (ht : Tz16 w) :
    Calls Tryz.prog 76 #[.int .u64 u, .int .i64 16] w fun e w' => e = .returned (.string (hexS u)) ∧ Below w.heap.size w w' := by
  have HF := Lib.hid (HexU16 u hu w ht)
  clear ht
  go_enter Tryz.func76, Tryz.ntmps76
  go_wp2_with (go_at_call 121; refine HF.out.mono ?_; rintro e w' ⟨rfl, hb⟩)
  go_ret
  exact ⟨rfl, hb⟩

end Go.Proofs.YtalkllfgedacoaaGreatDoor

namespace Go.Proofs.YtalkllfgedacoaaGreatDoor
open Go.ChangeShapes Go.WideShapes Go.ChangeAt Go.RowKit Go.Deep

/-- The library's table of which base 16 reads one cell. -/
abbrev Tab64 (w : World) : Prop := Lib.TabIs Tryz.prog w "math/bits.deBruijn64tab" .u8 (List.map (fun n : Nat => (n : Int)) Lib.deBruijn64tab)
theorem Tab64.tz {w : World} (h : Tab64 w) : Tz16 w := by
  have hc := Lib.TabIs.cell h (show Tryz.prog.globalNamed "math/bits.deBruijn64tab" = some 8 by kernel_rfl) 15 (by decide)
  have hc' : w.cell? ⟨8, 15, none⟩ = some (.int .u8 4) := by
    rw [hc]; rfl
  refine ⟨?_, hc'⟩
  rcases Nat.lt_or_ge 8 w.heap.size with hl | hl
  · exact hl
  · simp [World.cell?, Array.getElem?_eq_none hl] at hc'

theorem cfg_cells : Tryz.prog.cellsOf 88 = 11 := by kernel_rfl
theorem int_cells : Tryz.prog.cellsOf 3 = 1 := by kernel_rfl

set_option maxRecDepth 100000 in
theorem open_cfg {H : Type} {enc : TypeId × Value → H} {r : Reach} {b0 : Nat} {w : World} {base : Nat} {held : Bool} {v : Value} {d : DataW H} {p : List MemPlace}
    (hv : Value.okWide Tryz.prog w r b0 88 v) (h : DataW.Trod enc Tryz.prog w base (fun _ => true) held 88 v d p) : ∃ c : Cfg, v = cfgV c ∧ CfgIn w c := by
  obtain ⟨vs, rfl, hlen, hf⟩ := open_struct Tryz.underlying88 (by kernel_rfl) (by kernel_rfl) hv h
  obtain ⟨x0, y0, n0, e0, t0⟩ := hf 0 _ rfl
  obtain ⟨x1, y1, n1, e1, t1⟩ := hf 1 _ rfl
  obtain ⟨x2, y2, n2, e2, t2⟩ := hf 2 _ rfl
  obtain ⟨x3, y3, n3, e3, t3⟩ := hf 3 _ rfl
  obtain ⟨x4, y4, n4, e4, t4⟩ := hf 4 _ rfl
  obtain ⟨x5, y5, n5, e5, t5⟩ := hf 5 _ rfl
  obtain ⟨x6, y6, n6, e6, t6⟩ := hf 6 _ rfl
  obtain ⟨x7, y7, n7, e7, t7⟩ := hf 7 _ rfl
  obtain ⟨x8, y8, n8, e8, t8⟩ := hf 8 _ rfl
  obtain ⟨x9, y9, n9, e9, t9⟩ := hf 9 _ rfl
  obtain ⟨x10, y10, n10, e10, t10⟩ := hf 10 _ rfl
  obtain ⟨a0, q0, _, _⟩ := DataW.trod_int Tryz.underlying3 t0
  simp only [List.cons.injEq, and_true] at q0
  subst q0
  obtain ⟨a1, q1, _, _⟩ := DataW.trod_int Tryz.underlying3 t1
  simp only [List.cons.injEq, and_true] at q1
  subst q1
  obtain ⟨a2, q2, _, _⟩ := DataW.trod_int Tryz.underlying3 t2
  simp only [List.cons.injEq, and_true] at q2
  subst q2
  obtain ⟨a3, q3, _, _⟩ := DataW.trod_int Tryz.underlying3 t3
  simp only [List.cons.injEq, and_true] at q3
  subst q3
  obtain ⟨a4, q4, _, _⟩ := DataW.trod_int Tryz.underlying3 t4
  simp only [List.cons.injEq, and_true] at q4
  subst q4
  obtain ⟨a5, q5, _, _⟩ := DataW.trod_int Tryz.underlying3 t5
  simp only [List.cons.injEq, and_true] at q5
  subst q5
  obtain ⟨a6, q6, _, _⟩ := DataW.trod_int Tryz.underlying3 t6
  simp only [List.cons.injEq, and_true] at q6
  subst q6
  obtain ⟨a7, q7, _, _⟩ := DataW.trod_int Tryz.underlying3 t7
  simp only [List.cons.injEq, and_true] at q7
  subst q7
  obtain ⟨a8, q8, _, _⟩ := DataW.trod_int Tryz.underlying3 t8
  simp only [List.cons.injEq, and_true] at q8
  subst q8
  obtain ⟨a9, q9, _, _⟩ := DataW.trod_int Tryz.underlying3 t9
  simp only [List.cons.injEq, and_true] at q9
  subst q9
  obtain ⟨A, l, cap, rfl, hR, hm, _, _⟩ := rd_ints Tryz.underlying53 Tryz.underlying3 int_cells t10
  refine ⟨⟨a0, a1, a2, a3, a4, a5, a6, a7, a8, a9, l, A, cap⟩, ?_, hR, hm⟩
  have hl11 : vs.length = 11 := hlen
  match vs, hl11 with
  | [b0, b1, b2, b3, b4, b5, b6, b7, b8, b9, b10], _ =>
    simp only [List.getElem?_cons_zero, List.getElem?_cons_succ, Option.some.injEq] at e0 e1 e2 e3 e4 e5 e6 e7 e8 e9 e10
    subst e0 e1 e2 e3 e4 e5 e6 e7 e8 e9 e10
    rfl


section
variable {H : Type} {enc : TypeId × Value → H} {w : World} {base : Nat} {held : Bool}

set_option maxRecDepth 100000 in
theorem ref_arg {v : Value} {d : DataW H} {p : List MemPlace} (hv : Value.okWide Tryz.prog w .any base 26 v) (h : DataW.Trod enc Tryz.prog w 0 (fun _ => true) held 26 v d p) :
    ∃ r : Rf, v = rfV r ∧ In64 r.index ∧ In64 r.tag := by
  obtain ⟨cs, rfl, _⟩ := okWide_struct Tryz.underlying26 hv
  obtain ⟨n, hn⟩ := h
  obtain ⟨cs⟩ := cs
  have hn : DataW.trod enc Tryz.prog w 0 (fun _ => true) held n 26 cs = some (d, p) := hn
  have hl := fld_len Tryz.underlying26 hn
  rw [show Tryz.prog.cellsOf 26 = 2 by kernel_rfl] at hl
  have c1 : Tryz.prog.cellsOf 3 = 1 := by kernel_rfl
  obtain ⟨_, _, h0⟩ := fld Tryz.underlying26 hn 0 0 1 3 rfl c1
  obtain ⟨_, _, h1⟩ := fld Tryz.underlying26 hn 1 1 1 3 rfl c1
  obtain ⟨z0, e0, w0⟩ := leaf_int Tryz.underlying3 h0
  obtain ⟨z1, e1, w1⟩ := leaf_int Tryz.underlying3 h1
  refine ⟨⟨z0, z1⟩, ?_, in64_of w0, in64_of w1⟩
  match cs, hl with
  | [a0, a1], _ =>
    simp at e0 e1
    subst e0 e1
    rfl

set_option maxRecDepth 100000 in
theorem word_arg {v : Value} {d : DataW H} {p : List MemPlace} (hv : Value.okWide Tryz.prog w .any base 28 v) (h : DataW.Trod enc Tryz.prog w 0 (fun _ => true) held 28 v d p) :
    ∃ u : Nat, v = .int .u64 (u : Int) ∧ u < 18446744073709551616 := by
  obtain ⟨z, e1, e2, _, hw⟩ := open_int Tryz.underlying28 hv h
  simp only [Lit.wf, Bool.and_eq_true, decide_eq_true_eq] at hw
  obtain ⟨h1, h2⟩ := hw
  obtain ⟨u, rfl⟩ := Int.eq_ofNat_of_zero_le h1
  exact ⟨u, e1, by have := Int.lt_of_le_of_lt h2 (show _ < (18446744073709551616 : Int) by decide); omega⟩
end

end Go.Proofs.YtalkllfgedacoaaGreatDoor
