/- A machine's shape: code.Check and the document's Check answer as one plain test does. -/
import Derived.Test.YtknlhkkpheahlaaDoorIndexFn
namespace Go.Proofs.YtknlhkkpheahlaaDoor
open Go.RowKit

structure Cfg where
  (kind threads chans cap nodes retire patience tags seqs gens : Int)
  (start : List Int)
  (sa : Option Addr)
  (sc : Nat)

abbrev cfgV (c : Cfg) : Value := .agg #[.int .i64 c.kind, .int .i64 c.threads, .int .i64 c.chans, .int .i64 c.cap, .int .i64 c.nodes, .int .i64 c.retire, .int .i64 c.patience, .int .i64 c.tags, .int .i64 c.seqs, .int .i64 c.gens, .slice c.sa c.start.length c.sc]

/-- The shape's slice lies in w. -/
def CfgIn (w : World) (c : Cfg) : Prop := Rd w c.sa (ints c.start) ∧ c.start.length ≤ maxLen

theorem CfgIn.below {w w' : World} {c : Cfg} (h : CfgIn w c) (hb : Below w.heap.size w w') : CfgIn w' c := ⟨h.1.below hb, h.2⟩
theorem CfgIn.alloc {w : World} {c : Cfg} (h : CfgIn w c) (o : Obj) : CfgIn (w.alloc o) c := ⟨h.1.alloc o, h.2⟩

def inB (n a b : Int) : Bool := decide (a ≤ n) && decide (n ≤ b)

def ownB (c : Cfg) : Bool :=
  if c.kind == 1 || c.kind == 2 then inB c.cap 1 16 && c.chans == 0 && c.gens == 0 && (c.start.length : Int) == 0
  else if c.kind == 3 then inB c.chans 1 8 && inB c.cap 0 8 && inB c.gens 1 4095 && decide ((c.start.length : Int) ≤ c.chans) && !(c.start.any fun n => !inB n 0 c.cap)
  else false

def chkB (c : Cfg) : Bool :=
  inB c.threads 1 64 && inB c.nodes 1 64 && inB c.retire 1 32 && inB c.patience 0 4 && inB c.tags 1 4294967295 && inB c.seqs 1 1048575 && ownB c

def chkE (c : Cfg) : Int := if chkB c = true then 0 else 1

set_option maxHeartbeats 400000 in
theorem in_any (n a b : Int) (w : World) :
    Calls Tryd.prog 89 #[.int .i64 n, .int .i64 a, .int .i64 b] w fun e w' => e = .returned (.bool (inB n a b)) ∧ w = w' := by
  unfold inB
  by_cases h1 : a ≤ n <;> by_cases h2 : n ≤ b
  all_goals
    go_enter Tryd.func89, Tryd.ntmps89
    go_wp2
    go_ret
    exact ⟨by simp [h1, h2], rfl⟩

set_option maxHeartbeats 400000 in
theorem rin_any (n a b : Int) (w : World) :
    Calls Tryd.prog 57 #[.int .i64 n, .int .i64 a, .int .i64 b] w fun e w' => e = .returned (.bool (inB n a b)) ∧ w = w' := by
  unfold inB
  by_cases h1 : a ≤ n <;> by_cases h2 : n ≤ b
  all_goals
    go_enter Tryd.func57, Tryd.ntmps57
    go_wp2
    go_ret
    exact ⟨by simp [h1, h2], rfl⟩

set_option maxHeartbeats 400000 in
theorem own1_any (n m : Int) (b : Nat) (w : World) (hc : w.cell? ⟨b, 3, none⟩ = some (.int .i64 m)) :
    Calls Tryd.prog 117 #[.int .i64 n, .pointer (some ⟨b, 0, none⟩)] w fun e w' => e = .returned (.bool (!inB n 0 m)) ∧ Below w.heap.size w w' := by
  go_enter Tryd.func117, Tryd.ntmps117
  go_wp2_with (go_at_call 89; refine (in_any _ _ _ _).mono ?_; rintro e w' ⟨rfl, rfl⟩)
  go_ret
  exact ⟨rfl, Below.refl _ _⟩

theorem own1_enters : Enters 117 := enters_of Tryd.func117 (by kernel_rfl) (by kernel_rfl)

theorem own1_asks (m : Int) (b : Nat) (w : World) (l : List Int) (hlt : b < w.heap.size) (hc : w.cell? ⟨b, 3, none⟩ = some (.int .i64 m)) :
    Asks w 117 #[.pointer (some ⟨b, 0, none⟩)] (fun n => !inB n 0 m) l := by
  intro x _ w' hb'
  refine own1_any x m _ _ ?_
  rw [hb'.cell (p := ⟨b, 3, none⟩) hlt]
  exact hc

set_option maxHeartbeats 1000000 in
theorem own_any (c : Cfg) (w : World) (hcf : CfgIn w c) :
    Calls Tryd.prog 90 #[cfgV c] w fun e w' => e = .returned (.bool (ownB c)) ∧ Below w.heap.size w w' := by
  have HC := Lib.hid hcf
  clear hcf
  unfold cfgV
  by_cases k1 : c.kind = 1
  · have e1 : (c.kind == 1) = true := by simp [k1]
    have HK := Lib.hid k1
    clear k1
    go_enter Tryd.func90, Tryd.ntmps90
    go_wp2_with (go_at_call 89; refine (in_any _ _ _ _).mono ?_; rintro e w' ⟨rfl, rfl⟩)
    all_goals
      go_ret
      refine ⟨ret_bool ?_, (Below.refl _ _).alloc (Nat.le_refl _) _⟩
      simp [ownB, HK.out, *]
  by_cases k2 : c.kind = 2
  · have e1 : (c.kind == 1) = false := by simp [k2]
    have e2 : (c.kind == 2) = true := by simp [k2]
    have HK := Lib.hid k2
    clear k2
    go_enter Tryd.func90, Tryd.ntmps90
    go_wp2_with (go_at_call 89; refine (in_any _ _ _ _).mono ?_; rintro e w' ⟨rfl, rfl⟩)
    all_goals
      go_ret
      refine ⟨ret_bool ?_, (Below.refl _ _).alloc (Nat.le_refl _) _⟩
      simp [ownB, HK.out, *]
  by_cases k3 : c.kind = 3
  · have e1 : (c.kind == 1) = false := by simp [k1]
    have e2 : (c.kind == 2) = false := by simp [k2]
    have e3 : (c.kind == 3) = true := by simp [k3]
    have HK := Lib.hid k3
    clear k1 k2 k3
    go_enter Tryd.func90, Tryd.ntmps90
    go_wp2_with (first
      | (go_at_call 89; refine (in_any _ _ _ _).mono ?_; rintro e w' ⟨rfl, rfl⟩)
      | (go_at_call 116
         refine (ContainsFunc_any c.sa c.sc c.start 117 #[.pointer (some ⟨w.heap.size, 0, none⟩)] (fun n => !inB n 0 c.cap) _ HC.out.2 (HC.out.1.alloc _) own1_enters (own1_asks _ _ _ _ (by simp) (by simp))).mono ?_
         rintro e w1 ⟨rfl, hb1⟩))
    all_goals
      go_ret
      refine ⟨ret_bool ?_, ?_⟩
      · first | (simp [ownB, HK.out, *]; done) | (simp [ownB, HK.out, *]; intros; omega)
      · first | exact (Below.refl _ _).alloc (Nat.le_refl _) _ | exact ((Below.refl _ _).alloc (Nat.le_refl _) _).trans (hb1.mono (by simp))
  · have e1 : (c.kind == 1) = false := by simp [k1]
    have e2 : (c.kind == 2) = false := by simp [k2]
    have e3 : (c.kind == 3) = false := by simp [k3]
    have HK := Lib.hid (And.intro k1 (And.intro k2 k3))
    clear k1 k2 k3
    go_enter Tryd.func90, Tryd.ntmps90
    go_wp2
    go_ret
    refine ⟨ret_bool ?_, (Below.refl _ _).alloc (Nat.le_refl _) _⟩
    simp [ownB, HK.out.1, HK.out.2.1, HK.out.2.2]

set_option maxHeartbeats 1000000 in
theorem Check_any (c : Cfg) (w : World) (hcf : CfgIn w c) :
    Calls Tryd.prog 62 #[cfgV c] w fun e w' => e = .returned (.int .i64 (chkE c)) ∧ Below w.heap.size w w' := by
  have HC := Lib.hid hcf
  clear hcf
  unfold cfgV
  by_cases ho : ownB c = true
  all_goals
    go_enter Tryd.func62, Tryd.ntmps62
    go_wp2_with (first
      | (go_at_call 89; refine (in_any _ _ _ _).mono ?_; rintro e w' ⟨rfl, rfl⟩)
      | (go_at_call 90; refine (own_any c _ (HC.out.alloc _)).mono ?_; rintro e w1 ⟨rfl, hb1⟩))
    all_goals
      go_ret
      refine ⟨ret_int ?_, ?_⟩
      · simp [chkE, chkB, *]
      · first | exact (Below.refl _ _).alloc (Nat.le_refl _) _ | exact ((Below.refl _ _).alloc (Nat.le_refl _) _).trans (hb1.mono (by simp))

/-- The document's Check, over a loop. -/
theorem any_take_succ {p : Int → Bool} (l : List Int) (k : Nat) (h : k < l.length) : (l.take (k + 1)).any p = ((l.take k).any p || p (l.getD k 0)) := by
  rw [List.take_succ_eq_append_getElem h, List.any_append, List.any_cons, List.any_nil, Bool.or_false]
  simp only [List.getD, List.getElem?_eq_getElem h, Option.getD_some]

set_option maxHeartbeats 2000000 in
set_option maxRecDepth 100000 in
theorem rCheck_any (c : Cfg) (w : World) (hcf : CfgIn w c) :
    Calls Tryd.prog 23 #[cfgV c] w fun e w' => e = .returned (.int .i64 (chkE c)) ∧ Below w.heap.size w w' := by
  obtain ⟨hR, hl⟩ := hcf
  unfold maxLen at hl
  have HR := Lib.hid hR
  clear hR
  unfold cfgV
  generalize hn : c.start.length = n at hl ⊢
  have HN := Lib.hid hn
  clear hn
  generalize c.sa = A at HR ⊢
  go_enter Tryd.func23, Tryd.ntmps23
  go_wp2_with (first
      | (go_at_call 57; refine (rin_any _ _ _ _).mono ?_; rintro e w' ⟨rfl, rfl⟩))
  all_goals first
    | (go_ret
       refine ⟨ret_int ?_, (Below.refl _ _).alloc (Nat.le_refl _) _⟩
       have hn := HN.out
       clear HN HR
       unfold chkE chkB ownB
       grind)
    | skip
  go_loop [99] (fun i => ∃ k : Nat, k ≤ n ∧ i = .int .i64 k ∧ (c.start.take k).any (fun m => !inB m 0 c.cap) = false) (fun i => n - (intOf i).toNat)
  case atStart => exact ⟨0, Nat.zero_le _, rfl, by simp⟩
  case round =>
    obtain ⟨k, hk, rfl, hno⟩ := hrel
    have HNO := Lib.hid hno
    clear hno
    by_cases hlt : k < n
    · have hkl : k < c.start.length := by rw [HN.out]; exact hlt
      obtain ⟨b, o, rfl, hbl, hc⟩ := HR.out.at_ (by rw [ints_length]; omega)
      have hcell : w.cell? ⟨b, o + k, none⟩ = some (.int .i64 (c.start.getD k 0)) := hc k _ (ints_at hkl)
      have hsucc := any_take_succ (p := fun m => !inB m 0 c.cap) c.start k hkl
      rw [HNO.out] at hsucc
      have HS := Lib.hid hsucc
      generalize hx : c.start.getD k 0 = x at hcell
      have HX := Lib.hid hx
      clear hc hsucc hx hkl
      by_cases hpx : inB x 0 c.cap = true
      · go_wp2_with (first
          | (go_at_call 57; refine (rin_any _ _ _ _).mono ?_; rintro e w' ⟨rfl, rfl⟩))
        go_round
        case rel => exact ⟨k + 1, by omega, by go_num, by rw [HS.out, HX.out]; simp [hpx]⟩
        case measure => simp [intOf]; omega
      · go_wp2_with (first
          | (go_at_call 57; refine (rin_any _ _ _ _).mono ?_; rintro e w' ⟨rfl, rfl⟩))
        go_ret
        have hany : c.start.any (fun m => !inB m 0 c.cap) = true := by
          rw [List.any_eq_true]
          exact ⟨x, by rw [← HX.out]; simp [List.getD, HN.out, hlt], by simpa using hpx⟩
        refine ⟨ret_int ?_, (Below.refl _ _).alloc (Nat.le_refl _) _⟩
        have hn := HN.out
        clear HN HR HS HX HNO
        unfold chkE chkB ownB
        grind
    · go_wp2
      go_ret
      have hkn : k = c.start.length := by have := HN.out; omega
      have hany : c.start.any (fun m => !inB m 0 c.cap) = false := by
        have := HNO.out
        rwa [hkn, List.take_length] at this
      refine ⟨ret_int ?_, (Below.refl _ _).alloc (Nat.le_refl _) _⟩
      have hn := HN.out
      clear HN HR HNO
      unfold chkE chkB ownB
      grind

end Go.Proofs.YtknlhkkpheahlaaDoor
