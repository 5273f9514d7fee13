/- Numbers with blanks ahead (by a Builder), a channel's line: the program's, walked. -/
import Derived.Test.YtalkllfgedacoaaGreatDoorO6
namespace Go.Proofs.YtalkllfgedacoaaGreatDoor
open Go.RowKit Go.Sort

/-- A channel, and what lies in it. -/
structure Chn where
  (gen cap : Int)
  (used closed : Bool)
  (A : Option Addr)
  (c : Nat)
  (buf : List Int)
def Chn.cells (a : Chn) : List Value := [.int .i64 a.gen, .int .i64 a.cap, .bool a.used, .bool a.closed, .slice a.A a.buf.length a.c]
def Chn.none : Chn := ⟨0, 0, false, false, .none, 0, []⟩
instance : Cellful Chn where
  cells := Chn.cells
  s := 5
  dflt := Chn.none
  len := fun _ => rfl
  one := fun a u hu => by
    simp only [Chn.cells, List.mem_cons, List.not_mem_nil, or_false] at hu
    rcases hu with rfl | rfl | rfl | rfl | rfl <;> rfl
theorem chn_cells {w : World} {b o : Nat} {l : List Chn} (hc : ∀ k v, (rows l)[k]? = some v → w.cell? ⟨b, o + k, none⟩ = some v) {k : Nat} (hk : k < l.length) {x : Chn} (hx : l.getD k Chn.none = x) :
    w.cell? ⟨b, o + k * 5, none⟩ = some (.int .i64 x.gen) ∧ w.cell? ⟨b, o + k * 5 + 1, none⟩ = some (.int .i64 x.cap) ∧ w.cell? ⟨b, o + k * 5 + 2, none⟩ = some (.bool x.used) ∧ w.cell? ⟨b, o + k * 5 + 3, none⟩ = some (.bool x.closed) ∧ w.cell? ⟨b, o + k * 5 + 4, none⟩ = some (.slice x.A x.buf.length x.c) := by
  have h := rec_cell hc hk hx
  exact ⟨h 0 _ rfl, h 1 _ rfl, h 2 _ rfl, h 3 _ rfl, h 4 _ rfl⟩
abbrev chnV (a : Chn) : Value := .agg #[.int .i64 a.gen, .int .i64 a.cap, .bool a.used, .bool a.closed, .slice a.A a.buf.length a.c]

/-- A thread's call that waits, and its cases. -/
structure Wtr where
  (on : Bool)
  (ticket seq : Int)
  (A : Option Addr)
  (c : Nat)
  (cs : List Cse)
def Wtr.cells (a : Wtr) : List Value := [.bool a.on, .int .i64 a.ticket, .int .i64 a.seq, .slice a.A a.cs.length a.c]
def Wtr.none : Wtr := ⟨false, 0, 0, .none, 0, []⟩
instance : Cellful Wtr where
  cells := Wtr.cells
  s := 4
  dflt := Wtr.none
  len := fun _ => rfl
  one := fun a u hu => by
    simp only [Wtr.cells, List.mem_cons, List.not_mem_nil, or_false] at hu
    rcases hu with rfl | rfl | rfl | rfl <;> rfl
theorem wtr_cells {w : World} {b o : Nat} {l : List Wtr} (hc : ∀ k v, (rows l)[k]? = some v → w.cell? ⟨b, o + k, none⟩ = some v) {k : Nat} (hk : k < l.length) {x : Wtr} (hx : l.getD k Wtr.none = x) :
    w.cell? ⟨b, o + k * 4, none⟩ = some (.bool x.on) ∧ w.cell? ⟨b, o + k * 4 + 1, none⟩ = some (.int .i64 x.ticket) ∧ w.cell? ⟨b, o + k * 4 + 2, none⟩ = some (.int .i64 x.seq) ∧ w.cell? ⟨b, o + k * 4 + 3, none⟩ = some (.slice x.A x.cs.length x.c) := by
  have h := rec_cell hc hk hx
  exact ⟨h 0 _ rfl, h 1 _ rfl, h 2 _ rfl, h 3 _ rfl⟩

/-- Results as rows. -/
def Resr.none : Resr := ⟨0, 0, 0, 0⟩
instance : Cellful Resr where
  cells := Resr.cells
  s := 4
  dflt := Resr.none
  len := fun _ => rfl
  one := fun a u hu => by
    simp only [Resr.cells, List.mem_cons, List.not_mem_nil, or_false] at hu
    rcases hu with rfl | rfl | rfl | rfl <;> rfl
theorem rsr_cells {w : World} {b o : Nat} {l : List Resr} (hc : ∀ k v, (rows l)[k]? = some v → w.cell? ⟨b, o + k, none⟩ = some v) {k : Nat} (hk : k < l.length) {x : Resr} (hx : l.getD k Resr.none = x) :
    w.cell? ⟨b, o + k * 4, none⟩ = some (.int .i64 x.seq) ∧ w.cell? ⟨b, o + k * 4 + 1, none⟩ = some (.int .i64 x.case_) ∧ w.cell? ⟨b, o + k * 4 + 2, none⟩ = some (.int .i64 x.code) ∧ w.cell? ⟨b, o + k * 4 + 3, none⟩ = some (.int .i64 x.value) := by
  have h := rec_cell hc hk hx
  exact ⟨h 0 _ rfl, h 1 _ rfl, h 2 _ rfl, h 3 _ rfl⟩

/-- Numbers with blanks ahead. -/
def lsS (s : ByteArray) : List Int → ByteArray
  | [] => s
  | n :: r => lsS (s ++ (⟨#[32]⟩ ++ itoaS n)) r
theorem lsS_snoc : ∀ (l : List Int) (s : ByteArray) (n : Int), lsS s (l ++ [n]) = lsS s l ++ (⟨#[32]⟩ ++ itoaS n)
  | [], _, _ => rfl
  | _ :: r, _, n => lsS_snoc r _ n
theorem lsS_size : ∀ (l : List Int) (s : ByteArray), (∀ n ∈ l, In64 n) → (lsS s l).size ≤ s.size + 22 * l.length
  | [], _, _ => by simp [lsS]
  | n :: r, s, h => by
    have h1 := lsS_size r (s ++ (⟨#[32]⟩ ++ itoaS n)) (fun x hx => h x (List.mem_cons_of_mem _ hx))
    have a := itoaS_size (h n (List.mem_cons_self ..))
    have e1 : (⟨#[32]⟩ : ByteArray).size = 1 := rfl
    rw [ByteArray.size_append, ByteArray.size_append, e1] at h1
    simp only [lsS, List.length_cons]
    omega

def handS (p g : Int) : Int := if p < 0 ∨ 7 < p ∨ g < 1 ∨ 4095 < g then 0 else 8 * g + p
theorem handS_in (p g : Int) : In64 (handS p g) := by
  unfold handS In64
  split <;> omega
def chanS (i : Int) (x : Chn) : ByteArray :=
  if x.used = true then
    (if x.closed = true then ⟨#[115, 108, 111, 116, 32]⟩ ++ itoaS i ++ ⟨#[32, 99, 104, 97, 110, 32]⟩ ++ itoaS (handS i x.gen) ++ ⟨#[32, 99, 97, 112, 32]⟩ ++ itoaS x.cap ++ ⟨#[32, 99, 108, 111, 115, 101, 100]⟩ ++ ⟨#[32, 104, 97, 115]⟩ ++ lsS ⟨#[]⟩ x.buf
     else ⟨#[115, 108, 111, 116, 32]⟩ ++ itoaS i ++ ⟨#[32, 99, 104, 97, 110, 32]⟩ ++ itoaS (handS i x.gen) ++ ⟨#[32, 99, 97, 112, 32]⟩ ++ itoaS x.cap ++ ⟨#[32, 104, 97, 115]⟩ ++ lsS ⟨#[]⟩ x.buf)
  else ⟨#[115, 108, 111, 116, 32]⟩ ++ itoaS i ++ ⟨#[32, 102, 114, 101, 101, 32]⟩ ++ itoaS x.gen
def waitQ (x : Wtr) : Reqr := ⟨3, 0, 0, false, x.A, x.cs.length, x.c⟩
def waitS (t : Int) (x : Wtr) : ByteArray := ⟨#[119, 97, 105, 116, 32]⟩ ++ itoaS t ++ ⟨#[32, 116, 105, 99, 107, 101, 116, 32]⟩ ++ itoaS x.ticket ++ ⟨#[32]⟩ ++ callS (waitQ x) x.cs
def doneS (t : Int) (r : Resr) : ByteArray := ⟨#[100, 111, 110, 101, 32]⟩ ++ itoaS t ++ ⟨#[32]⟩ ++ resS r

/-- Lines of records, each by its place. -/
def linesS {α : Type} (f : Int → α → List ByteArray) (d : α) (l : List α) : Nat → List ByteArray
  | 0 => []
  | k + 1 => linesS f d l k ++ f (k : Int) (l.getD k d)
def chanL (i : Int) (x : Chn) : List ByteArray := [chanS i x]
def waitL (t : Int) (x : Wtr) : List ByteArray := if x.on = true then [waitS t x] else []
def doneL (t : Int) (r : Resr) : List ByteArray := [doneS t r]
def donesS (l : List Resr) : List ByteArray := linesS doneL Resr.none l l.length
def hallS (ticket : Int) (chans : List Chn) (waits : List Wtr) (done : List Resr) : List ByteArray :=
  [⟨#[116, 105, 99, 107, 101, 116, 32]⟩ ++ itoaS ticket] ++ linesS chanL Chn.none chans chans.length ++ linesS waitL Wtr.none waits waits.length ++ donesS done
def cellsS (cap : Int) (l : List Int) (done : List Resr) : List ByteArray :=
  [⟨#[99, 97, 112, 32]⟩ ++ itoaS cap ++ ⟨#[32, 104, 97, 115]⟩ ++ lsS ⟨#[]⟩ l] ++ donesS done
theorem linesS_len {α : Type} {f : Int → α → List ByteArray} {d : α} {l : List α} (h : ∀ i x, (f i x).length ≤ 1) : ∀ k, (linesS f d l k).length ≤ k
  | 0 => Nat.le_refl _
  | k + 1 => by
    have h1 := linesS_len (d := d) (l := l) h k
    have h2 := h (k : Int) (l.getD k d)
    rw [linesS, List.length_append]
    omega

end Go.Proofs.YtalkllfgedacoaaGreatDoor

namespace Go.Proofs.YtalkllfgedacoaaGreatDoor
open Go.RowKit Go.Sort

set_option maxHeartbeats 2000000 in
theorem Handle_any (p g : Int) (w : World) : Calls Tryz.prog 80 #[.int .i64 p, .int .i64 g] w fun e w' => e = .returned (.int .i64 (handS p g)) ∧ Below w.heap.size w w' := by
  by_cases h1 : p < 0
  · have HV := Lib.hid (show handS p g = 0 by unfold handS; rw [if_pos (by omega)])
    go_enter Tryz.func80, Tryz.ntmps80
    go_wp2
    go_ret
    exact ⟨by rw [HV.out]; rfl, Below.refl _ _⟩
  by_cases h2 : 7 < p
  · have HV := Lib.hid (show handS p g = 0 by unfold handS; rw [if_pos (by omega)])
    have h2b : (8 : Int) ≤ p := by omega
    go_enter Tryz.func80, Tryz.ntmps80
    go_wp2
    go_ret
    exact ⟨by rw [HV.out]; rfl, Below.refl _ _⟩
  have h2b : ¬ (8 : Int) ≤ p := by omega
  by_cases h3 : g < 1
  · have HV := Lib.hid (show handS p g = 0 by unfold handS; rw [if_pos (by omega)])
    go_enter Tryz.func80, Tryz.ntmps80
    go_wp2
    go_ret
    exact ⟨by rw [HV.out]; rfl, Below.refl _ _⟩
  by_cases h4 : 4095 < g
  · have HV := Lib.hid (show handS p g = 0 by unfold handS; rw [if_pos (by omega)])
    go_enter Tryz.func80, Tryz.ntmps80
    go_wp2
    go_ret
    exact ⟨by rw [HV.out]; rfl, Below.refl _ _⟩
  have HV := Lib.hid (show handS p g = 8 * g + p by unfold handS; rw [if_neg (by omega)])
  have HW := Lib.hid (show handS p g = g * 8 + p by unfold handS; rw [if_neg (by omega)]; omega)
  have i1 : IntKind.i64.wrap (8 * g) = 8 * g := by simp (disch := omega) only [IntWalk.i64_in]
  have i2 : IntKind.i64.wrap (g * 8) = g * 8 := by simp (disch := omega) only [IntWalk.i64_in]
  have i3 : IntKind.i64.wrap (8 * g + p) = 8 * g + p := by simp (disch := omega) only [IntWalk.i64_in]
  have i4 : IntKind.i64.wrap (g * 8 + p) = g * 8 + p := by simp (disch := omega) only [IntWalk.i64_in]
  go_enter Tryz.func80, Tryz.ntmps80
  go_wp2
  go_ret
  exact ⟨by first | (rw [HV.out]; rfl) | (rw [HW.out]; rfl), Below.refl _ _⟩

set_option maxHeartbeats 2000000 in
theorem rHandle_any (p g : Int) (w : World) : Calls Tryz.prog 42 #[.int .i64 p, .int .i64 g] w fun e w' => e = .returned (.int .i64 (handS p g)) ∧ Below w.heap.size w w' := by
  by_cases h1 : p < 0
  · have HV := Lib.hid (show handS p g = 0 by unfold handS; rw [if_pos (by omega)])
    go_enter Tryz.func42, Tryz.ntmps42
    go_wp2
    go_ret
    exact ⟨by rw [HV.out]; rfl, Below.refl _ _⟩
  by_cases h2 : 7 < p
  · have HV := Lib.hid (show handS p g = 0 by unfold handS; rw [if_pos (by omega)])
    have h2b : (8 : Int) ≤ p := by omega
    go_enter Tryz.func42, Tryz.ntmps42
    go_wp2
    go_ret
    exact ⟨by rw [HV.out]; rfl, Below.refl _ _⟩
  have h2b : ¬ (8 : Int) ≤ p := by omega
  by_cases h3 : g < 1
  · have HV := Lib.hid (show handS p g = 0 by unfold handS; rw [if_pos (by omega)])
    go_enter Tryz.func42, Tryz.ntmps42
    go_wp2
    go_ret
    exact ⟨by rw [HV.out]; rfl, Below.refl _ _⟩
  by_cases h4 : 4095 < g
  · have HV := Lib.hid (show handS p g = 0 by unfold handS; rw [if_pos (by omega)])
    go_enter Tryz.func42, Tryz.ntmps42
    go_wp2
    go_ret
    exact ⟨by rw [HV.out]; rfl, Below.refl _ _⟩
  have HV := Lib.hid (show handS p g = 8 * g + p by unfold handS; rw [if_neg (by omega)])
  have HW := Lib.hid (show handS p g = g * 8 + p by unfold handS; rw [if_neg (by omega)]; omega)
  have i1 : IntKind.i64.wrap (8 * g) = 8 * g := by simp (disch := omega) only [IntWalk.i64_in]
  have i2 : IntKind.i64.wrap (g * 8) = g * 8 := by simp (disch := omega) only [IntWalk.i64_in]
  have i3 : IntKind.i64.wrap (8 * g + p) = 8 * g + p := by simp (disch := omega) only [IntWalk.i64_in]
  have i4 : IntKind.i64.wrap (g * 8 + p) = g * 8 + p := by simp (disch := omega) only [IntWalk.i64_in]
  go_enter Tryz.func42, Tryz.ntmps42
  go_wp2
  go_ret
  exact ⟨by first | (rw [HV.out]; rfl) | (rw [HW.out]; rfl), Below.refl _ _⟩

set_option maxHeartbeats 2000000 in
set_option maxRecDepth 100000 in
theorem Texts_same (A B : Option Addr) (c d n : Nat) (l : List ByteArray) (w : World) (hl : l.length = n) (hn : n ≤ 4611686018427387904) (hA : Rd w A (rows l)) (hB : Rd w B (rows l)) :
    Calls Tryz.prog 16 #[.slice A n c, .slice B n d] w fun e w' => e = .returned (.bool true) ∧ Below w.heap.size w w' := by
  have HA := Lib.hid hA
  have HB := Lib.hid hB
  have HL := Lib.hid hl
  clear hA hB hl
  go_enter Tryz.func16, Tryz.ntmps16
  go_wp2
  go_loopw [13] (fun i wr => ∃ k : Nat, k ≤ n ∧ i = .int .i64 k ∧ Below w.heap.size w wr) (fun i _ => n - (intOf i).toNat)
  case atStart => exact ⟨0, Nat.zero_le _, rfl, Below.refl _ _⟩
  case round =>
    obtain ⟨k, hk, rfl, hb⟩ := hrel
    have HBW := Lib.hid hb
    clear hb
    by_cases hlt : k < n
    · obtain ⟨a1, o1, rfl, hl1, x1⟩ := rd_str (HA.out.below HBW.out) (k := k) (by rw [HL.out]; exact hlt)
      obtain ⟨a2, o2, rfl, hl2, x2⟩ := rd_str (HB.out.below HBW.out) (k := k) (by rw [HL.out]; exact hlt)
      have q1 : (0 : Int) ≤ (k : Int) := by omega
      have q2 : (k : Int) < (n : Int) := by omega
      generalize l.getD k ⟨#[]⟩ = s at *
      have es : (s.toList != s.toList) = false := by simp
      go_wp2
      go_quiet (fail)
      go_wp2
      refine ⟨⟨k + 1, by omega, by go_num, Below.drewN' HBW.out nq⟩, by simp [intOf]; omega⟩
    · go_wp2
      go_ret
      obtain rfl : k = n := by omega
      exact ⟨rfl, HBW.out⟩

set_option maxHeartbeats 4000000 in
set_option maxRecDepth 100000 in
theorem rlist_any (A : Option Addr) (n c : Nat) (l : List Int) (w : World) (hl : l.length = n) (hn : n ≤ 1048576) (hi : ∀ x ∈ l, In64 x) (hA : Rd w A (ints l)) :
    Calls Tryz.prog 43 #[.slice A n c] w fun e w' => e = .returned (.string (lsS ⟨#[]⟩ l)) ∧ Below w.heap.size w w' := by
  have HA := Lib.hid hA
  have HL := Lib.hid hl
  have HI := Lib.hid hi
  have HSZ : RowKit.Hid (∀ k, k ≤ n → (lsS ⟨#[]⟩ (l.take k)).size ≤ 30000000) := Lib.hid (fun k hk => by
    have h := lsS_size (l.take k) ⟨#[]⟩ (fun o ho' => hi o (List.mem_of_mem_take ho'))
    have e1 : (⟨#[]⟩ : ByteArray).size = 0 := rfl
    rw [e1, List.length_take] at h
    omega)
  clear hA hl hi
  go_enter Tryz.func43, Tryz.ntmps43
  go_wp2_with fail
  go_loopg [8, 3] n (fun gg i s wr => ∃ k : Nat, k ≤ n ∧ gg = n - k ∧ i = .int .i64 k ∧ s = .string (lsS ⟨#[]⟩ (l.take k)) ∧ Below w.heap.size w wr)
  case atStart => exact ⟨0, Nat.zero_le _, rfl, rfl, rfl, Below.refl _ _⟩
  case round =>
    obtain ⟨k, hk, hg, rfl, rfl, hb⟩ := hrel
    have HG := Lib.hid hg
    have HB := Lib.hid hb
    clear hg hb
    by_cases hlt : k < n
    · have q1 : (k : Int) < (n : Int) := by omega
      have hkl : k < l.length := by rw [HL.out]; exact hlt
      obtain ⟨b2, o2, rfl, hbl, hcl⟩ := (HA.out.below HB.out).at_ (by rw [ints_length]; omega)
      have x1 : wr.cell? ⟨b2, o2 + k, none⟩ = some (.int .i64 (l.getD k 0)) := hcl k _ (ints_at hkl)
      have HIN := Lib.hid (HI.out (l.getD k 0) (by rw [List.getD, List.getElem?_eq_getElem hkl]; exact List.getElem_mem hkl))
      have hS0 := HSZ.out k hk
      have HTK : RowKit.Hid (lsS ⟨#[]⟩ (l.take (k + 1)) = lsS ⟨#[]⟩ (l.take k) ++ (⟨#[32]⟩ ++ itoaS (l.getD k 0))) := Lib.hid (by
        rw [List.take_succ_eq_append_getElem hkl, lsS_snoc]
        congr 3
        rw [List.getD, List.getElem?_eq_getElem hkl]
        rfl)
      clear hcl hkl
      generalize l.getD k 0 = x at *
      generalize lsS ⟨#[]⟩ (l.take k) = S at *
      have HD := Lib.hid (fun W => rdec_any x W HIN.out)
      have hz := itoaS_size HIN.out
      generalize itoaS x = z at *
      have d0 : ¬ 9223372036854775807 < S.size + 1 := by omega
      have d1 : ¬ 9223372036854775807 < S.size + 1 + z.size := by omega
      clear hS0 hz
      go_wp2_with (go_at_call 37; refine (HD.out _).mono ?_; rintro er w2 ⟨rfl, hb2⟩; have HB2 := Lib.hid (HB.out.trans (hb2.mono HB.out.size)); clear hb2)
      go_roundg (n - (k + 1))
      case measure => rw [HG.out]; omega
      case rel => exact ⟨k + 1, by omega, rfl, by go_num, by rw [HTK.out]; simp only [ByteArray.append_assoc], HB2.out⟩
    · obtain rfl : k = n := by omega
      have q1 : ¬ (k : Int) < (k : Int) := by omega
      have HF : RowKit.Hid (lsS ⟨#[]⟩ l = lsS ⟨#[]⟩ (l.take k)) := Lib.hid (by rw [List.take_of_length_le (by rw [HL.out]; exact Nat.le_refl _)])
      go_wp2_with fail
      go_ret
      exact ⟨by rw [HF.out]; rfl, HB.out⟩

end Go.Proofs.YtalkllfgedacoaaGreatDoor

namespace Go.Proofs.YtalkllfgedacoaaGreatDoor
open Go.RowKit Go.Sort Go.Shelf

theorem WriteString_any (B b : Nat) (bs : List Value) (s : ByteArray) (w : World) (h : Lib.IsBuilder 116 5 B b bs w) (hlen : bs.length + s.size ≤ 140737488355328) (hBw : B ≤ w.heap.size) :
    Calls Tryz.prog 57 #[.pointer (some ⟨b, 0, none⟩), .string s] w fun e w' => e = .returned (.tuple #[.int .i64 s.size, .nilIface]) ∧ (Lib.BuilderAt 116 5 B b (.pointer (some ⟨b, 0, none⟩)) (bs ++ Lib.strCells s) w' ∧ Below B w w') :=
  Any.Builder_WriteString { Tryz.lays156 with } Tryz.Builder_Extra_156 B b bs s w h hlen hBw

theorem bldAt_below {T e : TypeId} {B b : Nat} {p : Value} {bs : List Value} {w w' : World} (h : Lib.BuilderAt T e B b p bs w) (hb : Below w.heap.size w w') : Lib.BuilderAt T e B b p bs w' := by
  obtain ⟨hB, v, hbk, hown, hne⟩ := h
  exact ⟨hB, v, (hb.block b (Array.getElem?_eq_some_iff.1 hbk).1).trans hbk, own_below hown hb, hne⟩
theorem bld_below {T e : TypeId} {B b : Nat} {bs : List Value} {w w' : World} (h : Lib.IsBuilder T e B b bs w) (hb : Below w.heap.size w w') : Lib.IsBuilder T e B b bs w' :=
  h.elim (fun x => .inl (bldAt_below x hb)) (fun x => .inr (bldAt_below x hb))
theorem bld_new (w : World) : Lib.IsBuilder 116 5 w.heap.size w.heap.size [] (w.alloc (.cells #[.pointer none, .slice none 0 0] 116)) :=
  .inl ⟨Nat.le_refl _, _, heap_alloc_new w _, own_nil _ _ _ _, by simp [Value.ownBlock]⟩

theorem write_one (B : Nat) (S z : ByteArray) (W : World) (h1 : Lib.IsBuilder 116 5 B B (Lib.byteCells S.data.toList) W) (h2 : B ≤ W.heap.size) (hS : S.size ≤ 30000000) (hz : z.size ≤ 21) :
    Calls Tryz.prog 57 #[.pointer (some ⟨B, 0, none⟩), .string (⟨#[32]⟩ ++ z)] W fun e w' => (∃ N : Int, e = .returned (.tuple #[.int .i64 N, .nilIface])) ∧ Lib.IsBuilder 116 5 B B (Lib.byteCells (S ++ (⟨#[32]⟩ ++ z)).data.toList) w' ∧ Below B W w' := by
  have hl : (Lib.byteCells S.data.toList).length + (⟨#[32]⟩ ++ z : ByteArray).size ≤ 140737488355328 := by
    rw [Lib.byteCells_length, ByteArray.size_append]
    have e1 : (⟨#[32]⟩ : ByteArray).size = 1 := rfl
    have e2 : S.data.toList.length = S.size := rfl
    omega
  have hc : Lib.byteCells (S ++ (⟨#[32]⟩ ++ z)).data.toList = Lib.byteCells S.data.toList ++ Lib.strCells (⟨#[32]⟩ ++ z) := by
    rw [bytes_app, Lib.byteCells_append]
    rfl
  have h := WriteString_any B B (Lib.byteCells S.data.toList) (⟨#[32]⟩ ++ z) W h1 hl h2
  rw [hc]
  generalize (⟨#[32]⟩ ++ z : ByteArray) = s at *
  generalize Lib.byteCells S.data.toList = bs at *
  refine h.mono ?_
  rintro e w' ⟨he, hb1, hb2⟩
  exact ⟨⟨_, he⟩, Or.inr hb1, hb2⟩

set_option maxHeartbeats 8000000 in
set_option maxRecDepth 100000 in
theorem vlist_any (A : Option Addr) (n c : Nat) (l : List Int) (w : World) (hl : l.length = n) (hn : n ≤ 1048576) (hi : ∀ x ∈ l, In64 x) (hA : Rd w A (ints l)) (ht : TabT w) :
    Calls Tryz.prog 45 #[.slice A n c] w fun e w' => e = .returned (.string (lsS ⟨#[]⟩ l)) ∧ Below w.heap.size w w' := by
  have HA := Lib.hid hA
  have HL := Lib.hid hl
  have HI := Lib.hid hi
  have HT := Lib.hid ht
  have HSZ : RowKit.Hid (∀ k, k ≤ n → (lsS ⟨#[]⟩ (l.take k)).size ≤ 30000000) := Lib.hid (fun k hk => by
    have h := lsS_size (l.take k) ⟨#[]⟩ (fun o ho' => hi o (List.mem_of_mem_take ho'))
    have e1 : (⟨#[]⟩ : ByteArray).size = 0 := rfl
    rw [e1, List.length_take] at h
    omega)
  clear hA hl hi ht
  go_enter Tryz.func45, Tryz.ntmps45
  go_upto_region 2 with (fail)
  have HBN := Lib.hid (bld_new w)
  have HB0 := Lib.hid ((Below.refl w.heap.size w).alloc (Nat.le_refl _) (.cells #[.pointer none, .slice none 0 0] 116))
  generalize w.alloc (.cells #[.pointer none, .slice none 0 0] 116) = W0 at *
  go_wp2_with fail
  go_loopg [8] n (fun gg i wr => ∃ k : Nat, k ≤ n ∧ gg = n - k ∧ i = .int .i64 k ∧ Lib.IsBuilder 116 5 w.heap.size w.heap.size (Lib.byteCells (lsS ⟨#[]⟩ (l.take k)).data.toList) wr ∧ Below w.heap.size w wr)
  case atStart => exact ⟨0, Nat.zero_le _, rfl, rfl, HBN.out, HB0.out⟩
  case round =>
    obtain ⟨k, hk, hg, rfl, hbl, hb⟩ := hrel
    have HG := Lib.hid hg
    have HB := Lib.hid hb
    have HBL := Lib.hid hbl
    clear hg hb hbl
    by_cases hlt : k < n
    · have q1 : (k : Int) < (n : Int) := by omega
      have hkl : k < l.length := by rw [HL.out]; exact hlt
      obtain ⟨b2, o2, rfl, hbl, hcl⟩ := (HA.out.below HB.out).at_ (by rw [ints_length]; omega)
      have x1 : wr.cell? ⟨b2, o2 + k, none⟩ = some (.int .i64 (l.getD k 0)) := hcl k _ (ints_at hkl)
      have HIN := Lib.hid (HI.out (l.getD k 0) (by rw [List.getD, List.getElem?_eq_getElem hkl]; exact List.getElem_mem hkl))
      have hS0 := HSZ.out k hk
      have HTK : RowKit.Hid (lsS ⟨#[]⟩ (l.take (k + 1)) = lsS ⟨#[]⟩ (l.take k) ++ (⟨#[32]⟩ ++ itoaS (l.getD k 0))) := Lib.hid (by
        rw [List.take_succ_eq_append_getElem hkl, lsS_snoc]
        congr 3
        rw [List.getD, List.getElem?_eq_getElem hkl]
        rfl)
      clear hcl hkl
      generalize l.getD k 0 = x at *
      generalize lsS ⟨#[]⟩ (l.take k) = S at *
      have HTW := Lib.hid (HT.out.below HB.out)
      have HD := Lib.hid (fun W h => dec_any x W HIN.out h)
      have hz := itoaS_size HIN.out
      generalize itoaS x = z at *
      have d0 : ¬ 9223372036854775807 < 1 + z.size := by omega
      have HWS := Lib.hid (fun W h1 h2 => write_one w.heap.size S z W h1 h2 hS0 hz)
      clear hS0 hz
      go_wp2_with (first
        | (go_at_call 35; refine (HD.out _ HTW.out).mono ?_; rintro er w2 ⟨rfl, hb2⟩; have HB2 := Lib.hid (HB.out.trans (hb2.mono HB.out.size)); have HBL2 := Lib.hid (bld_below HBL.out hb2); clear hb2)
        | (go_at_call 57; refine (HWS.out w2 HBL2.out HB2.out.size).mono ?_; rintro er w3 ⟨⟨N, rfl⟩, hbl3, hb3⟩; have HB3 := Lib.hid (HB2.out.trans hb3); have HBL3 := Lib.hid hbl3; clear hb3 hbl3))
      go_roundg (n - (k + 1))
      case measure => rw [HG.out]; omega
      case rel => exact ⟨k + 1, by omega, rfl, by go_num, by rw [HTK.out]; exact HBL3.out, HB3.out⟩
    · obtain rfl : k = n := by omega
      have q1 : ¬ (k : Int) < (k : Int) := by omega
      have HF : RowKit.Hid (l.take k = l) := Lib.hid (List.take_of_length_le (by rw [HL.out]; exact Nat.le_refl _))
      have HST := Lib.hid (Tryz.Builder_String_any w.heap.size w.heap.size _ wr HBL.out HB.out.size)
      go_wp2_with (go_at_call 59; refine HST.out.mono ?_; rintro er w4 ⟨rfl, hb4⟩)
      go_ret
      exact ⟨by rw [HF.out]; exact congrArg (fun z => Ending.returned (Value.string z)) (by simp), HB.out.trans hb4⟩

set_option maxHeartbeats 8000000 in
set_option maxRecDepth 100000 in
theorem channel_0 (i gen cap : Int) (cl : Bool) (BA : Option Addr) (bc : Nat) (bl : List Int) (w : World) (h0 : In64 i) (h1 : In64 gen) (h2 : In64 cap) (hn : bl.length ≤ 1048576) (hi : ∀ x ∈ bl, In64 x) (hr : Rd w BA (ints bl)) (ht : TabT w) :
    Calls Tryz.prog 41 #[.int .i64 i, .agg #[.int .i64 gen, .int .i64 cap, .bool false, .bool cl, .slice BA bl.length bc]] w fun e w' => e = .returned (.string (chanS i ⟨gen, cap, false, cl, BA, bc, bl⟩)) ∧ Below w.heap.size w w' := by
  have HVAL : RowKit.Hid (chanS i ⟨gen, cap, false, cl, BA, bc, bl⟩ = ⟨#[115, 108, 111, 116, 32]⟩ ++ itoaS i ++ ⟨#[32, 102, 114, 101, 101, 32]⟩ ++ itoaS gen) := Lib.hid rfl
  have HLS := Lib.hid (fun W (h : Rd W BA (ints bl) ∧ TabT W) => vlist_any BA bl.length bc bl W rfl hn hi h.1 h.2)
  have HD0 := Lib.hid (fun W (h : Rd W BA (ints bl) ∧ TabT W) => dec_any i W h0 h.2)
  have HD1 := Lib.hid (fun W (h : Rd W BA (ints bl) ∧ TabT W) => dec_any gen W h1 h.2)
  have HD2 := Lib.hid (fun W (h : Rd W BA (ints bl) ∧ TabT W) => dec_any cap W h2 h.2)
  have HDH := Lib.hid (fun W (h : Rd W BA (ints bl) ∧ TabT W) => dec_any (handS i gen) W (handS_in i gen) h.2)
  have HH := Lib.hid (fun W (_ : Rd W BA (ints bl) ∧ TabT W) => Handle_any i gen W)
  have HZ : RowKit.Hid (Rd w BA (ints bl) ∧ TabT w) := Lib.hid ⟨hr, ht⟩
  have k0 := itoaS_size h0
  have k1 := itoaS_size h1
  have k2 := itoaS_size h2
  have k3 := itoaS_size (handS_in i gen)
  have k4 := lsS_size bl ⟨#[]⟩ hi
  have k5 : (⟨#[]⟩ : ByteArray).size = 0 := rfl
  rw [k5] at k4
  generalize hP : (fun W : World => Rd W BA (ints bl) ∧ TabT W) = P at *
  have hP' : ∀ W : World, (Rd W BA (ints bl) ∧ TabT W) = P W := fun W => by rw [← hP]
  simp only [hP'] at HLS HD0 HD1 HD2 HDH HH HZ
  have HBL : RowKit.Hid (∀ (w w' : World), P w → Below w.heap.size w w' → P w') := Lib.hid (by rw [← hP]; exact fun w w' h hb => ⟨h.1.below hb, h.2.below hb⟩)
  have HX : RowKit.Hid (Blk (w.alloc (.cells #[.int .i64 gen, .int .i64 cap, .bool false, .bool cl, .slice BA bl.length bc] 91)) w.heap.size 91 [.int .i64 gen, .int .i64 cap, .bool false, .bool cl, .slice BA bl.length bc]) := Lib.hid (Blk.new w _ _)
  have HB0 := Lib.hid ((Below.refl w.heap.size w).alloc (Nat.le_refl _) (.cells #[.int .i64 gen, .int .i64 cap, .bool false, .bool cl, .slice BA bl.length bc] 91))
  have HPW := Lib.hid (HBL.out _ _ HZ.out HB0.out)
  generalize chanS i ⟨gen, cap, false, cl, BA, bc, bl⟩ = T at *
  generalize lsS ⟨#[]⟩ bl = ls at *
  generalize handS i gen = hh at *
  generalize itoaS i = z0 at *
  generalize itoaS gen = z1 at *
  generalize itoaS cap = z2 at *
  generalize itoaS hh = zh at *
  generalize bl.length = bn at *
  have d0 : ¬ 9223372036854775807 < 5 + z0.size := by omega
  have d1 : ¬ 9223372036854775807 < 5 + z0.size + 6 := by omega
  have d2 : ¬ 9223372036854775807 < 5 + z0.size + 6 + z1.size := by omega
  clear hP hP' h0 h1 h2 hn hi hr ht k0 k1 k2 k3 k4 k5 HZ
  go_enter Tryz.func41, Tryz.ntmps41
  go_upto_region 1 with (fail)
  generalize w.alloc (.cells #[.int .i64 gen, .int .i64 cap, .bool false, .bool cl, .slice BA bn bc] 91) = W0 at *
  have hwl := HX.out.lt
  have x0 := HX.out.cell (i := 0) rfl
  have x1 := HX.out.cell (i := 1) rfl
  have x2 := HX.out.cell (i := 2) rfl
  have x3 := HX.out.cell (i := 3) rfl
  have x4 := HX.out.cell (i := 4) rfl
  have HP0 : RowKit.Hid (P W0.drew) := Lib.hid (HBL.out _ _ HPW.out (Below.drewN' (Below.refl _ _) 1))
  go_upto_region 2 with (fail)
  go_region_held3 (fun w' => w'.cell? ⟨w.heap.size, 0, none⟩ = some (.int .i64 gen)) (first | go_keep | (simp only [hk0]; go_keep)) (first
    | (go_at_call 35; (with_reducible refine (HD0.out W0.drew HP0.out).mono ?_); rintro er v1 ⟨rfl, hb1⟩; have hB1 : Below W0.heap.size W0 v1 := ⟨hb1.os, hb1.tape, hb1.output, hb1.size, hb1.block⟩; have hk0 := fun o => hB1.cell (p := ⟨w.heap.size, o, none⟩) hwl; have HP1 := Lib.hid (HBL.out _ _ HPW.out hB1))
    | (go_at_call 35; (with_reducible refine (HD1.out v1 HP1.out).mono ?_); rintro er v2 ⟨rfl, hb2⟩; have hB2 : Below W0.heap.size W0 v2 := hB1.trans (hb2.mono hB1.size); have hk0 := fun o => hB2.cell (p := ⟨w.heap.size, o, none⟩) hwl; have HP2 := Lib.hid (HBL.out _ _ HPW.out hB2)))
  have HB2 := Lib.hid (HB0.out.trans (hB2.mono HB0.out.size))
  go_wp2_with fail
  go_ret
  exact ⟨by rw [HVAL.out]; rfl, HB2.out⟩

set_option maxHeartbeats 8000000 in
set_option maxRecDepth 100000 in
theorem channel_t (i gen cap : Int) (BA : Option Addr) (bc : Nat) (bl : List Int) (w : World) (h0 : In64 i) (h1 : In64 gen) (h2 : In64 cap) (hn : bl.length ≤ 1048576) (hi : ∀ x ∈ bl, In64 x) (hr : Rd w BA (ints bl)) (ht : TabT w) :
    Calls Tryz.prog 41 #[.int .i64 i, .agg #[.int .i64 gen, .int .i64 cap, .bool true, .bool true, .slice BA bl.length bc]] w fun e w' => e = .returned (.string (chanS i ⟨gen, cap, true, true, BA, bc, bl⟩)) ∧ Below w.heap.size w w' := by
  have HVAL : RowKit.Hid (chanS i ⟨gen, cap, true, true, BA, bc, bl⟩ = ⟨#[115, 108, 111, 116, 32]⟩ ++ itoaS i ++ ⟨#[32, 99, 104, 97, 110, 32]⟩ ++ itoaS (handS i gen) ++ ⟨#[32, 99, 97, 112, 32]⟩ ++ itoaS cap ++ ⟨#[32, 99, 108, 111, 115, 101, 100]⟩ ++ ⟨#[32, 104, 97, 115]⟩ ++ lsS ⟨#[]⟩ bl) := Lib.hid rfl
  have HLS := Lib.hid (fun W (h : Rd W BA (ints bl) ∧ TabT W) => vlist_any BA bl.length bc bl W rfl hn hi h.1 h.2)
  have HD0 := Lib.hid (fun W (h : Rd W BA (ints bl) ∧ TabT W) => dec_any i W h0 h.2)
  have HD1 := Lib.hid (fun W (h : Rd W BA (ints bl) ∧ TabT W) => dec_any gen W h1 h.2)
  have HD2 := Lib.hid (fun W (h : Rd W BA (ints bl) ∧ TabT W) => dec_any cap W h2 h.2)
  have HDH := Lib.hid (fun W (h : Rd W BA (ints bl) ∧ TabT W) => dec_any (handS i gen) W (handS_in i gen) h.2)
  have HH := Lib.hid (fun W (_ : Rd W BA (ints bl) ∧ TabT W) => Handle_any i gen W)
  have HZ : RowKit.Hid (Rd w BA (ints bl) ∧ TabT w) := Lib.hid ⟨hr, ht⟩
  have k0 := itoaS_size h0
  have k1 := itoaS_size h1
  have k2 := itoaS_size h2
  have k3 := itoaS_size (handS_in i gen)
  have k4 := lsS_size bl ⟨#[]⟩ hi
  have k5 : (⟨#[]⟩ : ByteArray).size = 0 := rfl
  rw [k5] at k4
  generalize hP : (fun W : World => Rd W BA (ints bl) ∧ TabT W) = P at *
  have hP' : ∀ W : World, (Rd W BA (ints bl) ∧ TabT W) = P W := fun W => by rw [← hP]
  simp only [hP'] at HLS HD0 HD1 HD2 HDH HH HZ
  have HBL : RowKit.Hid (∀ (w w' : World), P w → Below w.heap.size w w' → P w') := Lib.hid (by rw [← hP]; exact fun w w' h hb => ⟨h.1.below hb, h.2.below hb⟩)
  have HX : RowKit.Hid (Blk (w.alloc (.cells #[.int .i64 gen, .int .i64 cap, .bool true, .bool true, .slice BA bl.length bc] 91)) w.heap.size 91 [.int .i64 gen, .int .i64 cap, .bool true, .bool true, .slice BA bl.length bc]) := Lib.hid (Blk.new w _ _)
  have HB0 := Lib.hid ((Below.refl w.heap.size w).alloc (Nat.le_refl _) (.cells #[.int .i64 gen, .int .i64 cap, .bool true, .bool true, .slice BA bl.length bc] 91))
  have HPW := Lib.hid (HBL.out _ _ HZ.out HB0.out)
  generalize chanS i ⟨gen, cap, true, true, BA, bc, bl⟩ = T at *
  generalize lsS ⟨#[]⟩ bl = ls at *
  generalize handS i gen = hh at *
  generalize itoaS i = z0 at *
  generalize itoaS gen = z1 at *
  generalize itoaS cap = z2 at *
  generalize itoaS hh = zh at *
  generalize bl.length = bn at *
  have d0 : ¬ 9223372036854775807 < 5 + z0.size := by omega
  have d1 : ¬ 9223372036854775807 < 5 + z0.size + 6 := by omega
  have d2 : ¬ 9223372036854775807 < 5 + z0.size + 6 + zh.size := by omega
  have d3 : ¬ 9223372036854775807 < 5 + z0.size + 6 + zh.size + 5 := by omega
  have d4 : ¬ 9223372036854775807 < 5 + z0.size + 6 + zh.size + 5 + z2.size := by omega
  have d5 : ¬ 9223372036854775807 < 5 + z0.size + 6 + zh.size + 5 + z2.size + 7 := by omega
  have d6 : ¬ 9223372036854775807 < 5 + z0.size + 6 + zh.size + 5 + z2.size + 7 + 4 := by omega
  have d7 : ¬ 9223372036854775807 < 5 + z0.size + 6 + zh.size + 5 + z2.size + 7 + 4 + ls.size := by omega
  clear hP hP' h0 h1 h2 hn hi hr ht k0 k1 k2 k3 k4 k5 HZ
  go_enter Tryz.func41, Tryz.ntmps41
  go_upto_region 1 with (fail)
  generalize w.alloc (.cells #[.int .i64 gen, .int .i64 cap, .bool true, .bool true, .slice BA bn bc] 91) = W0 at *
  have hwl := HX.out.lt
  have x0 := HX.out.cell (i := 0) rfl
  have x1 := HX.out.cell (i := 1) rfl
  have x2 := HX.out.cell (i := 2) rfl
  have x3 := HX.out.cell (i := 3) rfl
  have x4 := HX.out.cell (i := 4) rfl
  have HP0 : RowKit.Hid (P W0.drew) := Lib.hid (HBL.out _ _ HPW.out (Below.drewN' (Below.refl _ _) 1))
  go_upto_region 3 with (fail)
  go_region_held3 (fun w' => w'.cell? ⟨w.heap.size, 0, none⟩ = some (.int .i64 gen) ∧ w'.cell? ⟨w.heap.size, 1, none⟩ = some (.int .i64 cap)) (first | go_keep | (simp only [hk0]; go_keep)) (first
    | (go_at_call 35; (with_reducible refine (HD0.out W0.drew HP0.out).mono ?_); rintro er v1 ⟨rfl, hb1⟩; have hB1 : Below W0.heap.size W0 v1 := ⟨hb1.os, hb1.tape, hb1.output, hb1.size, hb1.block⟩; have hk0 := fun o => hB1.cell (p := ⟨w.heap.size, o, none⟩) hwl; have HP1 := Lib.hid (HBL.out _ _ HPW.out hB1))
    | (go_at_call 80; (with_reducible refine (HH.out v1 HP1.out).mono ?_); rintro er v2 ⟨rfl, hb2⟩; have hB2 : Below W0.heap.size W0 v2 := hB1.trans (hb2.mono hB1.size); have hk0 := fun o => hB2.cell (p := ⟨w.heap.size, o, none⟩) hwl; have HP2 := Lib.hid (HBL.out _ _ HPW.out hB2))
    | (go_at_call 35; (with_reducible refine (HDH.out v2 HP2.out).mono ?_); rintro er v3 ⟨rfl, hb3⟩; have hB3 : Below W0.heap.size W0 v3 := hB2.trans (hb3.mono hB2.size); have hk0 := fun o => hB3.cell (p := ⟨w.heap.size, o, none⟩) hwl; have HP3 := Lib.hid (HBL.out _ _ HPW.out hB3))
    | (go_at_call 35; (with_reducible refine (HD2.out v3 HP3.out).mono ?_); rintro er v4 ⟨rfl, hb4⟩; have hB4 : Below W0.heap.size W0 v4 := hB3.trans (hb4.mono hB3.size); have hk0 := fun o => hB4.cell (p := ⟨w.heap.size, o, none⟩) hwl; have HP4 := Lib.hid (HBL.out _ _ HPW.out hB4)))
  have HB4 := Lib.hid (HB0.out.trans (hB4.mono HB0.out.size))
  have HX4 := Lib.hid (HX.out.below hB4 hwl)
  clear x0 x1 x2 x3 x4 hk0
  have x3 := HX4.out.cell (i := 3) rfl
  have x4 := HX4.out.cell (i := 4) rfl
  go_wp2_with (go_at_call 45; refine (HLS.out _ HP4.out).mono ?_; rintro er w5 ⟨rfl, hb5⟩)
  go_ret
  exact ⟨by rw [HVAL.out]; rfl, HB4.out.trans (hb5.mono HB4.out.size)⟩

set_option maxHeartbeats 8000000 in
set_option maxRecDepth 100000 in
theorem channel_f (i gen cap : Int) (BA : Option Addr) (bc : Nat) (bl : List Int) (w : World) (h0 : In64 i) (h1 : In64 gen) (h2 : In64 cap) (hn : bl.length ≤ 1048576) (hi : ∀ x ∈ bl, In64 x) (hr : Rd w BA (ints bl)) (ht : TabT w) :
    Calls Tryz.prog 41 #[.int .i64 i, .agg #[.int .i64 gen, .int .i64 cap, .bool true, .bool false, .slice BA bl.length bc]] w fun e w' => e = .returned (.string (chanS i ⟨gen, cap, true, false, BA, bc, bl⟩)) ∧ Below w.heap.size w w' := by
  have HVAL : RowKit.Hid (chanS i ⟨gen, cap, true, false, BA, bc, bl⟩ = ⟨#[115, 108, 111, 116, 32]⟩ ++ itoaS i ++ ⟨#[32, 99, 104, 97, 110, 32]⟩ ++ itoaS (handS i gen) ++ ⟨#[32, 99, 97, 112, 32]⟩ ++ itoaS cap ++ ⟨#[32, 104, 97, 115]⟩ ++ lsS ⟨#[]⟩ bl) := Lib.hid rfl
  have HLS := Lib.hid (fun W (h : Rd W BA (ints bl) ∧ TabT W) => vlist_any BA bl.length bc bl W rfl hn hi h.1 h.2)
  have HD0 := Lib.hid (fun W (h : Rd W BA (ints bl) ∧ TabT W) => dec_any i W h0 h.2)
  have HD1 := Lib.hid (fun W (h : Rd W BA (ints bl) ∧ TabT W) => dec_any gen W h1 h.2)
  have HD2 := Lib.hid (fun W (h : Rd W BA (ints bl) ∧ TabT W) => dec_any cap W h2 h.2)
  have HDH := Lib.hid (fun W (h : Rd W BA (ints bl) ∧ TabT W) => dec_any (handS i gen) W (handS_in i gen) h.2)
  have HH := Lib.hid (fun W (_ : Rd W BA (ints bl) ∧ TabT W) => Handle_any i gen W)
  have HZ : RowKit.Hid (Rd w BA (ints bl) ∧ TabT w) := Lib.hid ⟨hr, ht⟩
  have k0 := itoaS_size h0
  have k1 := itoaS_size h1
  have k2 := itoaS_size h2
  have k3 := itoaS_size (handS_in i gen)
  have k4 := lsS_size bl ⟨#[]⟩ hi
  have k5 : (⟨#[]⟩ : ByteArray).size = 0 := rfl
  rw [k5] at k4
  generalize hP : (fun W : World => Rd W BA (ints bl) ∧ TabT W) = P at *
  have hP' : ∀ W : World, (Rd W BA (ints bl) ∧ TabT W) = P W := fun W => by rw [← hP]
  simp only [hP'] at HLS HD0 HD1 HD2 HDH HH HZ
  have HBL : RowKit.Hid (∀ (w w' : World), P w → Below w.heap.size w w' → P w') := Lib.hid (by rw [← hP]; exact fun w w' h hb => ⟨h.1.below hb, h.2.below hb⟩)
  have HX : RowKit.Hid (Blk (w.alloc (.cells #[.int .i64 gen, .int .i64 cap, .bool true, .bool false, .slice BA bl.length bc] 91)) w.heap.size 91 [.int .i64 gen, .int .i64 cap, .bool true, .bool false, .slice BA bl.length bc]) := Lib.hid (Blk.new w _ _)
  have HB0 := Lib.hid ((Below.refl w.heap.size w).alloc (Nat.le_refl _) (.cells #[.int .i64 gen, .int .i64 cap, .bool true, .bool false, .slice BA bl.length bc] 91))
  have HPW := Lib.hid (HBL.out _ _ HZ.out HB0.out)
  generalize chanS i ⟨gen, cap, true, false, BA, bc, bl⟩ = T at *
  generalize lsS ⟨#[]⟩ bl = ls at *
  generalize handS i gen = hh at *
  generalize itoaS i = z0 at *
  generalize itoaS gen = z1 at *
  generalize itoaS cap = z2 at *
  generalize itoaS hh = zh at *
  generalize bl.length = bn at *
  have d0 : ¬ 9223372036854775807 < 5 + z0.size := by omega
  have d1 : ¬ 9223372036854775807 < 5 + z0.size + 6 := by omega
  have d2 : ¬ 9223372036854775807 < 5 + z0.size + 6 + zh.size := by omega
  have d3 : ¬ 9223372036854775807 < 5 + z0.size + 6 + zh.size + 5 := by omega
  have d4 : ¬ 9223372036854775807 < 5 + z0.size + 6 + zh.size + 5 + z2.size := by omega
  have d5 : ¬ 9223372036854775807 < 5 + z0.size + 6 + zh.size + 5 + z2.size + 4 := by omega
  have d6 : ¬ 9223372036854775807 < 5 + z0.size + 6 + zh.size + 5 + z2.size + 4 + ls.size := by omega
  clear hP hP' h0 h1 h2 hn hi hr ht k0 k1 k2 k3 k4 k5 HZ
  go_enter Tryz.func41, Tryz.ntmps41
  go_upto_region 1 with (fail)
  generalize w.alloc (.cells #[.int .i64 gen, .int .i64 cap, .bool true, .bool false, .slice BA bn bc] 91) = W0 at *
  have hwl := HX.out.lt
  have x0 := HX.out.cell (i := 0) rfl
  have x1 := HX.out.cell (i := 1) rfl
  have x2 := HX.out.cell (i := 2) rfl
  have x3 := HX.out.cell (i := 3) rfl
  have x4 := HX.out.cell (i := 4) rfl
  have HP0 : RowKit.Hid (P W0.drew) := Lib.hid (HBL.out _ _ HPW.out (Below.drewN' (Below.refl _ _) 1))
  go_upto_region 3 with (fail)
  go_region_held3 (fun w' => w'.cell? ⟨w.heap.size, 0, none⟩ = some (.int .i64 gen) ∧ w'.cell? ⟨w.heap.size, 1, none⟩ = some (.int .i64 cap)) (first | go_keep | (simp only [hk0]; go_keep)) (first
    | (go_at_call 35; (with_reducible refine (HD0.out W0.drew HP0.out).mono ?_); rintro er v1 ⟨rfl, hb1⟩; have hB1 : Below W0.heap.size W0 v1 := ⟨hb1.os, hb1.tape, hb1.output, hb1.size, hb1.block⟩; have hk0 := fun o => hB1.cell (p := ⟨w.heap.size, o, none⟩) hwl; have HP1 := Lib.hid (HBL.out _ _ HPW.out hB1))
    | (go_at_call 80; (with_reducible refine (HH.out v1 HP1.out).mono ?_); rintro er v2 ⟨rfl, hb2⟩; have hB2 : Below W0.heap.size W0 v2 := hB1.trans (hb2.mono hB1.size); have hk0 := fun o => hB2.cell (p := ⟨w.heap.size, o, none⟩) hwl; have HP2 := Lib.hid (HBL.out _ _ HPW.out hB2))
    | (go_at_call 35; (with_reducible refine (HDH.out v2 HP2.out).mono ?_); rintro er v3 ⟨rfl, hb3⟩; have hB3 : Below W0.heap.size W0 v3 := hB2.trans (hb3.mono hB2.size); have hk0 := fun o => hB3.cell (p := ⟨w.heap.size, o, none⟩) hwl; have HP3 := Lib.hid (HBL.out _ _ HPW.out hB3))
    | (go_at_call 35; (with_reducible refine (HD2.out v3 HP3.out).mono ?_); rintro er v4 ⟨rfl, hb4⟩; have hB4 : Below W0.heap.size W0 v4 := hB3.trans (hb4.mono hB3.size); have hk0 := fun o => hB4.cell (p := ⟨w.heap.size, o, none⟩) hwl; have HP4 := Lib.hid (HBL.out _ _ HPW.out hB4)))
  have HB4 := Lib.hid (HB0.out.trans (hB4.mono HB0.out.size))
  have HX4 := Lib.hid (HX.out.below hB4 hwl)
  clear x0 x1 x2 x3 x4 hk0
  have x3 := HX4.out.cell (i := 3) rfl
  have x4 := HX4.out.cell (i := 4) rfl
  go_wp2_with (go_at_call 45; refine (HLS.out _ HP4.out).mono ?_; rintro er w5 ⟨rfl, hb5⟩)
  go_ret
  exact ⟨by rw [HVAL.out]; rfl, HB4.out.trans (hb5.mono HB4.out.size)⟩

theorem channel_any (i : Int) (x : Chn) (w : World) (h0 : In64 i) (h1 : In64 x.gen) (h2 : In64 x.cap) (hn : x.buf.length ≤ 1048576) (hi : ∀ y ∈ x.buf, In64 y) (hr : Rd w x.A (ints x.buf)) (ht : TabT w) :
    Calls Tryz.prog 41 #[.int .i64 i, chnV x] w fun e w' => e = .returned (.string (chanS i x)) ∧ Below w.heap.size w w' := by
  obtain ⟨gen, cap, us, cl, BA, bc, bl⟩ := x
  cases us with
  | false => exact channel_0 i gen cap cl BA bc bl w h0 h1 h2 hn hi hr ht
  | true =>
    cases cl with
    | true => exact channel_t i gen cap BA bc bl w h0 h1 h2 hn hi hr ht
    | false => exact channel_f i gen cap BA bc bl w h0 h1 h2 hn hi hr ht

end Go.Proofs.YtalkllfgedacoaaGreatDoor
