/- csp: requests and cases; Name, receives, walked. -/
import Derived.Test.YtknlhkkpheahlaaDoorGen
namespace Go.Proofs.YtknlhkkpheahlaaDoor
open Go.RowKit Go.Sort

/-- One thing that a call may do with a channel. -/
structure Cse where
  (dir handle value : Int)
deriving DecidableEq
def Cse.cells (a : Cse) : List Value := [.int .i64 a.dir, .int .i64 a.handle, .int .i64 a.value]
def Cse.none : Cse := ⟨0, 0, 0⟩
abbrev cseV (a : Cse) : Value := .agg #[.int .i64 a.dir, .int .i64 a.handle, .int .i64 a.value]
instance : Cellful Cse where
  cells := Cse.cells
  s := 3
  dflt := Cse.none
  len := fun _ => rfl
  one := fun a u hu => by
    simp only [Cse.cells, List.mem_cons, List.not_mem_nil, or_false] at hu
    rcases hu with rfl | rfl | rfl <;> rfl

theorem cse_cells {w : World} {b o : Nat} {l : List Cse} (hc : ∀ k v, (rows l)[k]? = some v → w.cell? ⟨b, o + k, none⟩ = some v) {k : Nat} (hk : k < l.length) {x : Cse} (hx : l.getD k Cse.none = x) :
    w.cell? ⟨b, o + k * 3, none⟩ = some (.int .i64 x.dir) ∧ w.cell? ⟨b, o + k * 3 + 1, none⟩ = some (.int .i64 x.handle) ∧ w.cell? ⟨b, o + k * 3 + 2, none⟩ = some (.int .i64 x.value) := by
  have h := rec_cell hc hk hx
  exact ⟨h 0 _ rfl, h 1 _ rfl, h 2 _ rfl⟩

/-- A call. -/
structure Reqr where
  (kind arg value : Int)
  (dflt : Bool)
  (A : Option Addr)
  (n c : Nat)
abbrev reqV (q : Reqr) : Value := .agg #[.int .i64 q.kind, .int .i64 q.arg, .int .i64 q.value, .bool q.dflt, .slice q.A q.n q.c]
def Reqr.cells (q : Reqr) : List Value := [.int .i64 q.kind, .int .i64 q.arg, .int .i64 q.value, .bool q.dflt, .slice q.A q.n q.c]

/-- Its cases lie so. -/
structure ReqAt (w : World) (q : Reqr) (l : List Cse) : Prop where
  len : l.length = q.n
  rd : Rd w q.A (rows l)
theorem ReqAt.below {w w' : World} {q : Reqr} {l : List Cse} (h : ReqAt w q l) (hb : Below w.heap.size w w') : ReqAt w' q l := ⟨h.len, h.rd.below hb⟩

def selS : ByteArray := ⟨#[115, 101, 108, 101, 99, 116]⟩
def tryS (d : Bool) : ByteArray := if d then ⟨#[116, 114, 121]⟩ else ⟨#[]⟩
def namedS (q : Reqr) (l : List Cse) : ByteArray :=
  if q.n = 1 then (if (l.getD 0 Cse.none).dir = 1 then tryS q.dflt ++ ⟨#[115, 101, 110, 100]⟩ else if (l.getD 0 Cse.none).dir = 2 then tryS q.dflt ++ ⟨#[114, 101, 99, 118]⟩ else selS) else selS
def nameS (q : Reqr) (l : List Cse) : ByteArray :=
  if q.kind = 3 then namedS q l
  else if q.kind = 1 then ⟨#[109, 97, 107, 101]⟩
  else if q.kind = 2 then ⟨#[102, 114, 101, 101]⟩
  else if q.kind = 4 then ⟨#[99, 108, 111, 115, 101]⟩
  else if q.kind = 5 then ⟨#[108, 101, 110]⟩
  else if q.kind = 6 then ⟨#[99, 97, 112]⟩
  else if q.kind = 7 then ⟨#[99, 97, 110, 99, 101, 108]⟩
  else if q.kind = 8 then ⟨#[112, 117, 116]⟩
  else if q.kind = 9 then ⟨#[116, 97, 107, 101]⟩
  else ⟨#[]⟩

theorem reqBox {w : World} {g : Nat} {q : Reqr} (h : Blk w g 24 q.cells) :
    w.cell? ⟨g, 0, none⟩ = some (.int .i64 q.kind) ∧ w.cell? ⟨g, 1, none⟩ = some (.int .i64 q.arg) ∧ w.cell? ⟨g, 2, none⟩ = some (.int .i64 q.value) ∧ w.cell? ⟨g, 3, none⟩ = some (.bool q.dflt) ∧ w.cell? ⟨g, 4, none⟩ = some (.slice q.A q.n q.c) :=
  ⟨h.cell rfl, h.cell rfl, h.cell rfl, h.cell rfl, h.cell rfl⟩

set_option maxHeartbeats 4000000 in
set_option maxRecDepth 100000 in
theorem named_any (q : Reqr) (l : List Cse) (w : World) (h : ReqAt w q l) :
    Calls Tryd.prog 68 #[reqV q] w fun e w' => e = .returned (.string (namedS q l)) ∧ Below w.heap.size w w' := by
  unfold reqV
  by_cases h1 : q.n = 1
  · have HN := Lib.hid h1
    obtain ⟨b, o, hA, hbl, hc⟩ := h.rd.at_ (by rw [rows_length, h.len, h1]; decide)
    have hxx : l.getD 0 Cse.none = l.getD 0 Cse.none := rfl
    obtain ⟨c0, _, _⟩ := cse_cells hc (k := 0) (by rw [h.len, h1]; decide) hxx
    simp only [Nat.zero_mul, Nat.add_zero] at c0
    have c0' : ∀ ob, (w.alloc ob).cell? ⟨b, o, none⟩ = some (.int .i64 (l.getD 0 Cse.none).dir) := fun ob => by rw [World.cell?_alloc_lt _ _ _ (by exact hbl)]; exact c0
    have HNS : RowKit.Hid (namedS q l = if (l.getD 0 Cse.none).dir = 1 then tryS q.dflt ++ ⟨#[115, 101, 110, 100]⟩ else if (l.getD 0 Cse.none).dir = 2 then tryS q.dflt ++ ⟨#[114, 101, 99, 118]⟩ else selS) := Lib.hid (by unfold namedS; rw [if_pos h1])
    generalize (l.getD 0 Cse.none).dir = d at *
    clear h hxx hc
    rw [hA, h1]
    have hne : ¬ b = w.heap.size := by omega
    cases hd : q.dflt <;> by_cases d1 : d = 1
    all_goals first
      | (have b1 : (d == 1) = true := by simp [d1]
         have HD := Lib.hid d1
         clear d1
         go_enter Tryd.func68, Tryd.ntmps68
         go_wp2
         go_ret
         exact ⟨by rw [HNS.out, if_pos HD.out, hd]; rfl, (Below.refl _ _).alloc (Nat.le_refl _) _⟩)
      | (have b1 : (d == 1) = false := by simp [d1]
         have HD := Lib.hid d1
         clear d1
         by_cases d2 : d = 2
         · have b2 : (d == 2) = true := by simp [d2]
           have HD2 := Lib.hid d2
           clear d2
           go_enter Tryd.func68, Tryd.ntmps68
           go_wp2
           go_ret
           exact ⟨by rw [HNS.out, if_neg HD.out, if_pos HD2.out, hd]; rfl, (Below.refl _ _).alloc (Nat.le_refl _) _⟩
         · have b2 : (d == 2) = false := by simp [d2]
           have HD2 := Lib.hid d2
           clear d2
           go_enter Tryd.func68, Tryd.ntmps68
           go_wp2
           go_ret
           exact ⟨by rw [HNS.out, if_neg HD.out, if_neg HD2.out]; rfl, (Below.refl _ _).alloc (Nat.le_refl _) _⟩)
  · have HN := Lib.hid h1
    have b1 : ((q.n : Int) != 1) = true := by simp; omega
    clear h
    go_enter Tryd.func68, Tryd.ntmps68
    go_wp2
    go_ret
    exact ⟨by unfold namedS; rw [if_neg HN.out]; rfl, (Below.refl _ _).alloc (Nat.le_refl _) _⟩

set_option maxHeartbeats 4000000 in
set_option maxRecDepth 100000 in
theorem Name_sel (q : Reqr) (l : List Cse) (w : World) (h : ReqAt w q l) (hk : q.kind = 3) :
    Calls Tryd.prog 32 #[reqV q] w fun e w' => e = .returned (.string (nameS q l)) ∧ Below w.heap.size w w' := by
  have HM := Lib.hid (fun W h => named_any q l W h)
  have HR := Lib.hid h
  have HNS : RowKit.Hid (nameS q l = namedS q l) := Lib.hid (by unfold nameS; rw [if_pos hk])
  unfold reqV at HM ⊢
  rw [hk] at HM ⊢
  clear h hk
  go_enter Tryd.func32, Tryd.ntmps32
  go_wp2_with (first | (go_at_call 68; refine (HM.out _ (HR.out.below ((Below.refl _ _).alloc (Nat.le_refl _) _))).mono ?_; rintro e w1 ⟨rfl, hb1⟩; have HB := Lib.hid hb1; clear hb1))
  go_ret
  exact ⟨by rw [HNS.out]; rfl, ((Below.refl _ _).alloc (Nat.le_refl _) _).trans (HB.out.mono (by simp))⟩

set_option maxHeartbeats 4000000 in
set_option maxRecDepth 100000 in
theorem Name_k1 (q : Reqr) (l : List Cse) (w : World) (hk : q.kind = 1) :
    Calls Tryd.prog 32 #[reqV q] w fun e w' => e = .returned (.string (nameS q l)) ∧ Below w.heap.size w w' := by
  have HNS : RowKit.Hid (nameS q l = ⟨#[109, 97, 107, 101]⟩) := Lib.hid (by unfold nameS; rw [if_neg (by omega), if_pos hk])
  unfold reqV
  rw [hk]
  clear hk
  go_enter Tryd.func32, Tryd.ntmps32
  go_wp2
  go_ret
  exact ⟨by rw [HNS.out]; rfl, (Below.refl _ _).alloc (Nat.le_refl _) _⟩

set_option maxHeartbeats 4000000 in
set_option maxRecDepth 100000 in
theorem Name_k2 (q : Reqr) (l : List Cse) (w : World) (hk : q.kind = 2) :
    Calls Tryd.prog 32 #[reqV q] w fun e w' => e = .returned (.string (nameS q l)) ∧ Below w.heap.size w w' := by
  have HNS : RowKit.Hid (nameS q l = ⟨#[102, 114, 101, 101]⟩) := Lib.hid (by unfold nameS; rw [if_neg (by omega), if_neg (by omega), if_pos hk])
  unfold reqV
  rw [hk]
  clear hk
  go_enter Tryd.func32, Tryd.ntmps32
  go_wp2
  go_ret
  exact ⟨by rw [HNS.out]; rfl, (Below.refl _ _).alloc (Nat.le_refl _) _⟩

set_option maxHeartbeats 4000000 in
set_option maxRecDepth 100000 in
theorem Name_k4 (q : Reqr) (l : List Cse) (w : World) (hk : q.kind = 4) :
    Calls Tryd.prog 32 #[reqV q] w fun e w' => e = .returned (.string (nameS q l)) ∧ Below w.heap.size w w' := by
  have HNS : RowKit.Hid (nameS q l = ⟨#[99, 108, 111, 115, 101]⟩) := Lib.hid (by unfold nameS; rw [if_neg (by omega), if_neg (by omega), if_neg (by omega), if_pos hk])
  unfold reqV
  rw [hk]
  clear hk
  go_enter Tryd.func32, Tryd.ntmps32
  go_wp2
  go_ret
  exact ⟨by rw [HNS.out]; rfl, (Below.refl _ _).alloc (Nat.le_refl _) _⟩

set_option maxHeartbeats 4000000 in
set_option maxRecDepth 100000 in
theorem Name_k5 (q : Reqr) (l : List Cse) (w : World) (hk : q.kind = 5) :
    Calls Tryd.prog 32 #[reqV q] w fun e w' => e = .returned (.string (nameS q l)) ∧ Below w.heap.size w w' := by
  have HNS : RowKit.Hid (nameS q l = ⟨#[108, 101, 110]⟩) := Lib.hid (by unfold nameS; rw [if_neg (by omega), if_neg (by omega), if_neg (by omega), if_neg (by omega), if_pos hk])
  unfold reqV
  rw [hk]
  clear hk
  go_enter Tryd.func32, Tryd.ntmps32
  go_wp2
  go_ret
  exact ⟨by rw [HNS.out]; rfl, (Below.refl _ _).alloc (Nat.le_refl _) _⟩

set_option maxHeartbeats 4000000 in
set_option maxRecDepth 100000 in
theorem Name_k6 (q : Reqr) (l : List Cse) (w : World) (hk : q.kind = 6) :
    Calls Tryd.prog 32 #[reqV q] w fun e w' => e = .returned (.string (nameS q l)) ∧ Below w.heap.size w w' := by
  have HNS : RowKit.Hid (nameS q l = ⟨#[99, 97, 112]⟩) := Lib.hid (by unfold nameS; rw [if_neg (by omega), if_neg (by omega), if_neg (by omega), if_neg (by omega), if_neg (by omega), if_pos hk])
  unfold reqV
  rw [hk]
  clear hk
  go_enter Tryd.func32, Tryd.ntmps32
  go_wp2
  go_ret
  exact ⟨by rw [HNS.out]; rfl, (Below.refl _ _).alloc (Nat.le_refl _) _⟩

set_option maxHeartbeats 4000000 in
set_option maxRecDepth 100000 in
theorem Name_k7 (q : Reqr) (l : List Cse) (w : World) (hk : q.kind = 7) :
    Calls Tryd.prog 32 #[reqV q] w fun e w' => e = .returned (.string (nameS q l)) ∧ Below w.heap.size w w' := by
  have HNS : RowKit.Hid (nameS q l = ⟨#[99, 97, 110, 99, 101, 108]⟩) := Lib.hid (by unfold nameS; rw [if_neg (by omega), if_neg (by omega), if_neg (by omega), if_neg (by omega), if_neg (by omega), if_neg (by omega), if_pos hk])
  unfold reqV
  rw [hk]
  clear hk
  go_enter Tryd.func32, Tryd.ntmps32
  go_wp2
  go_ret
  exact ⟨by rw [HNS.out]; rfl, (Below.refl _ _).alloc (Nat.le_refl _) _⟩

set_option maxHeartbeats 4000000 in
set_option maxRecDepth 100000 in
theorem Name_k8 (q : Reqr) (l : List Cse) (w : World) (hk : q.kind = 8) :
    Calls Tryd.prog 32 #[reqV q] w fun e w' => e = .returned (.string (nameS q l)) ∧ Below w.heap.size w w' := by
  have HNS : RowKit.Hid (nameS q l = ⟨#[112, 117, 116]⟩) := Lib.hid (by unfold nameS; rw [if_neg (by omega), if_neg (by omega), if_neg (by omega), if_neg (by omega), if_neg (by omega), if_neg (by omega), if_neg (by omega), if_pos hk])
  unfold reqV
  rw [hk]
  clear hk
  go_enter Tryd.func32, Tryd.ntmps32
  go_wp2
  go_ret
  exact ⟨by rw [HNS.out]; rfl, (Below.refl _ _).alloc (Nat.le_refl _) _⟩

set_option maxHeartbeats 4000000 in
set_option maxRecDepth 100000 in
theorem Name_k9 (q : Reqr) (l : List Cse) (w : World) (hk : q.kind = 9) :
    Calls Tryd.prog 32 #[reqV q] w fun e w' => e = .returned (.string (nameS q l)) ∧ Below w.heap.size w w' := by
  have HNS : RowKit.Hid (nameS q l = ⟨#[116, 97, 107, 101]⟩) := Lib.hid (by unfold nameS; rw [if_neg (by omega), if_neg (by omega), if_neg (by omega), if_neg (by omega), if_neg (by omega), if_neg (by omega), if_neg (by omega), if_neg (by omega), if_pos hk])
  unfold reqV
  rw [hk]
  clear hk
  go_enter Tryd.func32, Tryd.ntmps32
  go_wp2
  go_ret
  exact ⟨by rw [HNS.out]; rfl, (Below.refl _ _).alloc (Nat.le_refl _) _⟩

set_option maxHeartbeats 4000000 in
set_option maxRecDepth 100000 in
theorem Name_no (q : Reqr) (l : List Cse) (w : World) (hk : ¬ (1 ≤ q.kind ∧ q.kind ≤ 9)) :
    Calls Tryd.prog 32 #[reqV q] w fun e w' => e = .returned (.string (nameS q l)) ∧ Below w.heap.size w w' := by
  have HNS : RowKit.Hid (nameS q l = ⟨#[]⟩) := Lib.hid (by unfold nameS; rw [if_neg (by omega), if_neg (by omega), if_neg (by omega), if_neg (by omega), if_neg (by omega), if_neg (by omega), if_neg (by omega), if_neg (by omega), if_neg (by omega)])
  unfold reqV
  have b1 : (q.kind == 1) = false := by simp; omega
  have b2 : (q.kind == 2) = false := by simp; omega
  have b3 : (q.kind == 3) = false := by simp; omega
  have b4 : (q.kind == 4) = false := by simp; omega
  have b5 : (q.kind == 5) = false := by simp; omega
  have b6 : (q.kind == 6) = false := by simp; omega
  have b7 : (q.kind == 7) = false := by simp; omega
  have b8 : (q.kind == 8) = false := by simp; omega
  have b9 : (q.kind == 9) = false := by simp; omega
  clear hk
  go_enter Tryd.func32, Tryd.ntmps32
  go_wp2
  go_ret
  exact ⟨by rw [HNS.out]; rfl, (Below.refl _ _).alloc (Nat.le_refl _) _⟩

theorem Name_any (q : Reqr) (l : List Cse) (w : World) (h : ReqAt w q l) :
    Calls Tryd.prog 32 #[reqV q] w fun e w' => e = .returned (.string (nameS q l)) ∧ Below w.heap.size w w' := by
  rcases (show q.kind = 3 ∨ q.kind = 1 ∨ q.kind = 2 ∨ q.kind = 4 ∨ q.kind = 5 ∨ q.kind = 6 ∨ q.kind = 7 ∨ q.kind = 8 ∨ q.kind = 9 ∨ ¬ (1 ≤ q.kind ∧ q.kind ≤ 9) by omega) with hk | hk | hk | hk | hk | hk | hk | hk | hk | hk
  · exact Name_sel q l w h hk
  · exact Name_k1 q l w hk
  · exact Name_k2 q l w hk
  · exact Name_k4 q l w hk
  · exact Name_k5 q l w hk
  · exact Name_k6 q l w hk
  · exact Name_k7 q l w hk
  · exact Name_k8 q l w hk
  · exact Name_k9 q l w hk
  · exact Name_no q l w hk

def recvB (l : List Cse) (k : Int) : Bool := decide (0 ≤ k) && decide (k < l.length) && (l.getD k.toNat Cse.none).dir == 2

set_option maxHeartbeats 4000000 in
set_option maxRecDepth 100000 in
theorem receives_any (q : Reqr) (l : List Cse) (k : Int) (w : World) (h : ReqAt w q l) :
    Calls Tryd.prog 28 #[reqV q, .int .i64 k] w fun e w' => e = .returned (.bool (recvB l k)) ∧ Below w.heap.size w w' := by
  unfold reqV
  have HRB : RowKit.Hid (recvB l k = (decide (0 ≤ k) && decide (k < l.length) && (l.getD k.toNat Cse.none).dir == 2)) := Lib.hid rfl
  by_cases h0 : 0 ≤ k
  · by_cases h1 : k < l.length
    · obtain ⟨j, rfl⟩ := Int.eq_ofNat_of_zero_le h0
      have hj : j < l.length := by omega
      obtain ⟨b, o, hA, hbl, hc⟩ := h.rd.at_ (by rw [rows_length]; exact Nat.mul_pos (by omega) (by decide))
      obtain ⟨c0, _, _⟩ := cse_cells hc hj rfl
      have c0' : ∀ ob, (w.alloc ob).cell? ⟨b, o + j * 3, none⟩ = some (.int .i64 (l.getD j Cse.none).dir) := fun ob => by rw [World.cell?_alloc_lt _ _ _ (by exact hbl)]; exact c0
      have q1 : (0 : Int) ≤ (j : Int) := by omega
      have q2 : (j : Int) < (q.n : Int) := by rw [← h.len]; omega
      have HJ := Lib.hid (And.intro h0 h1)
      generalize hdd : (l.getD j Cse.none).dir = dd at *
      have HDD := Lib.hid hdd
      clear hdd
      rw [hA]
      have hne : ¬ b = w.heap.size := by omega
      clear h h0 h1 hc
      go_enter Tryd.func28, Tryd.ntmps28
      go_wp2
      go_ret
      exact ⟨ret_bool (by rw [HRB.out, decide_eq_true HJ.out.1, decide_eq_true HJ.out.2, Bool.true_and, Bool.true_and, Int.toNat_natCast, HDD.out]), (Below.refl _ _).alloc (Nat.le_refl _) _⟩
    · have q2 : ¬ k < (q.n : Int) := by rw [← h.len]; exact h1
      have HJ := Lib.hid h1
      clear h h1
      go_enter Tryd.func28, Tryd.ntmps28
      go_wp2
      go_ret
      exact ⟨ret_bool (by have h := HJ.out; rw [HRB.out, show decide (k < (l.length : Int)) = false from decide_eq_false (by omega)]; simp), (Below.refl _ _).alloc (Nat.le_refl _) _⟩
  · have HJ := Lib.hid h0
    clear h
    go_enter Tryd.func28, Tryd.ntmps28
    go_wp2
    go_ret
    exact ⟨ret_bool (by have h := HJ.out; rw [HRB.out, show decide (0 ≤ k) = false from decide_eq_false (by omega)]; simp), (Below.refl _ _).alloc (Nat.le_refl _) _⟩

end Go.Proofs.YtknlhkkpheahlaaDoor
