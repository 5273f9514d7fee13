/- Small functions of lines: handles, rows of texts held against each other, numbers with blanks ahead. -/
import Derived.Test.YtalkllfgedacoaaGreatDoorD4
import Derived.Test.YtalkllfgedacoaaGreatDoorD11
import Derived.Test.YtalkllfgedacoaaGreatDoorD2
namespace Go.Proofs.YtalkllfgedacoaaGreatDoor
open Go.RowKit Go.Sort

/-- What the walks of lines read of the world. -/
structure VIn (q : Reqr) (cs : List Cse) (w : World) : Prop where
  req : ReqAt w q cs
  err : ErrT w
  tab : TabT w
  ml : MLT w
theorem VIn.below {q : Reqr} {cs : List Cse} {w w' : World} (h : VIn q cs w) (hb : Below w.heap.size w w') : VIn q cs w' := ⟨h.req.below hb, h.err.below hb, h.tab.below hb, h.ml.below hb⟩

/-- A thread: what its line names, and the other cells. -/
structure Tsk where
  (pc sq : Int)
  (q : Reqr)
  (sl : Bool)
  (rd : Int)
  (r0 r1 r2 r3 r4 r5 r6 r7 r8 r9 r10 r11 r12 r13 r14 r15 r16 r17 r18 r19 r20 r21 r22 r23 r24 : Value)
abbrev taskV (k : Tsk) : Value := .agg #[.int .i64 k.pc, .int .i64 k.sq, .int .i64 k.q.kind, .int .i64 k.q.arg, .int .i64 k.q.value, .bool k.q.dflt, .slice k.q.A k.q.n k.q.c, .bool k.sl, .int .i64 k.rd, k.r0, k.r1, k.r2, k.r3, k.r4, k.r5, k.r6, k.r7, k.r8, k.r9, k.r10, k.r11, k.r12, k.r13, k.r14, k.r15, k.r16, k.r17, k.r18, k.r19, k.r20, k.r21, k.r22, k.r23, k.r24]
def tcells (k : Tsk) : List Value := [.int .i64 k.pc, .int .i64 k.sq, .int .i64 k.q.kind, .int .i64 k.q.arg, .int .i64 k.q.value, .bool k.q.dflt, .slice k.q.A k.q.n k.q.c, .bool k.sl, .int .i64 k.rd, k.r0, k.r1, k.r2, k.r3, k.r4, k.r5, k.r6, k.r7, k.r8, k.r9, k.r10, k.r11, k.r12, k.r13, k.r14, k.r15, k.r16, k.r17, k.r18, k.r19, k.r20, k.r21, k.r22, k.r23, k.r24]
def taskS (k : Tsk) (cs : List Cse) : ByteArray :=
  if k.pc = 0 then stepS k.pc ++ ⟨#[32]⟩ ++ itoaS k.sq
  else if k.sl = true then stepS k.pc ++ ⟨#[32]⟩ ++ itoaS k.sq ++ ⟨#[32]⟩ ++ callS k.q cs ++ ⟨#[32, 115, 108, 111, 119]⟩ ++ ⟨#[32, 114, 111, 117, 110, 100, 32]⟩ ++ itoaS k.rd
  else stepS k.pc ++ ⟨#[32]⟩ ++ itoaS k.sq ++ ⟨#[32]⟩ ++ callS k.q cs ++ ⟨#[32, 114, 111, 117, 110, 100, 32]⟩ ++ itoaS k.rd

/-- A note. -/
structure NotR where
  (kn th sq tm : Int)
  (q : Reqr)
  (r : Resr)
abbrev noteV (k : NotR) : Value := .agg #[.int .i64 k.kn, .int .i64 k.th, .int .i64 k.sq, .int .i64 k.tm, .int .i64 k.q.kind, .int .i64 k.q.arg, .int .i64 k.q.value, .bool k.q.dflt, .slice k.q.A k.q.n k.q.c, .int .i64 k.r.seq, .int .i64 k.r.case_, .int .i64 k.r.code, .int .i64 k.r.value]
def ncells (k : NotR) : List Value := [.int .i64 k.kn, .int .i64 k.th, .int .i64 k.sq, .int .i64 k.tm, .int .i64 k.q.kind, .int .i64 k.q.arg, .int .i64 k.q.value, .bool k.q.dflt, .slice k.q.A k.q.n k.q.c, .int .i64 k.r.seq, .int .i64 k.r.case_, .int .i64 k.r.code, .int .i64 k.r.value]
def noteS (k : NotR) (cs : List Cse) : ByteArray :=
  if k.kn = 1 then itoaS k.tm ++ ⟨#[32, 116, 104, 114, 101, 97, 100, 32]⟩ ++ itoaS k.th ++ ⟨#[32, 99, 97, 108, 108, 115, 32]⟩ ++ itoaS k.sq ++ ⟨#[32]⟩ ++ callS k.q cs
  else if k.kn = 2 then itoaS k.tm ++ ⟨#[32, 116, 104, 114, 101, 97, 100, 32]⟩ ++ itoaS k.th ++ ⟨#[32, 119, 97, 105, 116, 115, 32]⟩ ++ itoaS k.sq
  else if k.kn = 3 then itoaS k.tm ++ ⟨#[32, 116, 104, 114, 101, 97, 100, 32]⟩ ++ itoaS k.th ++ ⟨#[32, 114, 101, 116, 117, 114, 110, 115, 32]⟩ ++ resS k.r
  else itoaS k.tm ++ ⟨#[32, 116, 104, 114, 101, 97, 100, 32]⟩ ++ itoaS k.th ++ ⟨#[32, 110, 111, 116, 104, 105, 110, 103]⟩

/-- A call that the root got. -/
structure Opr where
  (th sq ph : Int)
  (q : Reqr)
def Opr.cells (o : Opr) : List Value := [.int .i64 o.th, .int .i64 o.sq, .int .i64 o.ph, .int .i64 o.q.kind, .int .i64 o.q.arg, .int .i64 o.q.value, .bool o.q.dflt, .slice o.q.A o.q.n o.q.c]
def Opr.none : Opr := ⟨0, 0, 0, ⟨0, 0, 0, false, .none, 0, 0⟩⟩
instance : Cellful Opr where
  cells := Opr.cells
  s := 8
  dflt := Opr.none
  len := fun _ => rfl
  one := fun a u hu => by
    simp only [Opr.cells, List.mem_cons, List.not_mem_nil, or_false] at hu
    rcases hu with rfl | rfl | rfl | rfl | rfl | rfl | rfl | rfl <;> rfl
theorem opr_cells {w : World} {b o : Nat} {l : List Opr} (hc : ∀ k v, (rows l)[k]? = some v → w.cell? ⟨b, o + k, none⟩ = some v) {k : Nat} (hk : k < l.length) {x : Opr} (hx : l.getD k Opr.none = x) :
    w.cell? ⟨b, o + k * 8, none⟩ = some (.int .i64 x.th) ∧ w.cell? ⟨b, o + k * 8 + 1, none⟩ = some (.int .i64 x.sq) ∧ w.cell? ⟨b, o + k * 8 + 2, none⟩ = some (.int .i64 x.ph) ∧ w.cell? ⟨b, o + k * 8 + 3, none⟩ = some (.int .i64 x.q.kind) ∧ w.cell? ⟨b, o + k * 8 + 4, none⟩ = some (.int .i64 x.q.arg) ∧ w.cell? ⟨b, o + k * 8 + 5, none⟩ = some (.int .i64 x.q.value) ∧ w.cell? ⟨b, o + k * 8 + 6, none⟩ = some (.bool x.q.dflt) ∧ w.cell? ⟨b, o + k * 8 + 7, none⟩ = some (.slice x.q.A x.q.n x.q.c) := by
  have h := rec_cell hc hk hx
  exact ⟨h 0 _ rfl, h 1 _ rfl, h 2 _ rfl, h 3 _ rfl, h 4 _ rfl, h 5 _ rfl, h 6 _ rfl, h 7 _ rfl⟩

/-- A change of the root. -/
structure TurR where
  (tm th : Int)
  (A : Option Addr)
  (n c : Nat)
abbrev turnV (k : TurR) : Value := .agg #[.int .i64 k.tm, .int .i64 k.th, .slice k.A k.n k.c]
def opS (o : Opr) : ByteArray := ⟨#[32]⟩ ++ itoaS o.th ++ ⟨#[46]⟩ ++ itoaS o.sq
def opsS (s : ByteArray) : List Opr → ByteArray
  | [] => s
  | o :: r => opsS (s ++ opS o) r
theorem opsS_snoc : ∀ (l : List Opr) (s : ByteArray) (o : Opr), opsS s (l ++ [o]) = opsS s l ++ opS o
  | [], _, _ => rfl
  | _ :: r, _, o => opsS_snoc r _ o
def turnS (k : TurR) (l : List Opr) : ByteArray := opsS (itoaS k.tm ++ ⟨#[32, 116, 104, 114, 101, 97, 100, 32]⟩ ++ itoaS k.th ++ ⟨#[32, 100, 111, 101, 115]⟩) l
theorem opsS_size : ∀ (l : List Opr) (s : ByteArray), (∀ o ∈ l, In64 o.th ∧ In64 o.sq) → (opsS s l).size ≤ s.size + 44 * l.length
  | [], _, _ => by simp [opsS]
  | o :: r, s, h => by
    have h1 := opsS_size r (s ++ opS o) (fun x hx => h x (List.mem_cons_of_mem _ hx))
    have h2 := h o (List.mem_cons_self ..)
    have a := itoaS_size h2.1
    have b := itoaS_size h2.2
    have e1 : (⟨#[32]⟩ : ByteArray).size = 1 := rfl
    have e2 : (⟨#[46]⟩ : ByteArray).size = 1 := rfl
    have h3 : (opS o).size ≤ 44 := by
      unfold opS
      rw [ByteArray.size_append, ByteArray.size_append, ByteArray.size_append, e1, e2]
      omega
    rw [ByteArray.size_append] at h1
    simp only [opsS, List.length_cons]
    omega

end Go.Proofs.YtalkllfgedacoaaGreatDoor

namespace Go.Proofs.YtalkllfgedacoaaGreatDoor
open Go.RowKit Go.Sort

/-- A channel, and what lies in it. -/
structure Chn where
  (gen cap : Int)
  (used closed : Bool)
  (A : Option Addr)
  (c : Nat)
  (buf : List Int)
def Chn.cells (a : Chn) : List Value := [.int .i64 a.gen, .int .i64 a.cap, .bool a.used, .bool a.closed, .slice a.A a.buf.length a.c]
def Chn.none : Chn := ⟨0, 0, false, false, .none, 0, []⟩
instance : Cellful Chn where
  cells := Chn.cells
  s := 5
  dflt := Chn.none
  len := fun _ => rfl
  one := fun a u hu => by
    simp only [Chn.cells, List.mem_cons, List.not_mem_nil, or_false] at hu
    rcases hu with rfl | rfl | rfl | rfl | rfl <;> rfl
theorem chn_cells {w : World} {b o : Nat} {l : List Chn} (hc : ∀ k v, (rows l)[k]? = some v → w.cell? ⟨b, o + k, none⟩ = some v) {k : Nat} (hk : k < l.length) {x : Chn} (hx : l.getD k Chn.none = x) :
    w.cell? ⟨b, o + k * 5, none⟩ = some (.int .i64 x.gen) ∧ w.cell? ⟨b, o + k * 5 + 1, none⟩ = some (.int .i64 x.cap) ∧ w.cell? ⟨b, o + k * 5 + 2, none⟩ = some (.bool x.used) ∧ w.cell? ⟨b, o + k * 5 + 3, none⟩ = some (.bool x.closed) ∧ w.cell? ⟨b, o + k * 5 + 4, none⟩ = some (.slice x.A x.buf.length x.c) := by
  have h := rec_cell hc hk hx
  exact ⟨h 0 _ rfl, h 1 _ rfl, h 2 _ rfl, h 3 _ rfl, h 4 _ rfl⟩
abbrev chnV (a : Chn) : Value := .agg #[.int .i64 a.gen, .int .i64 a.cap, .bool a.used, .bool a.closed, .slice a.A a.buf.length a.c]

/-- A thread's call that waits, and its cases. -/
structure Wtr where
  (on : Bool)
  (ticket seq : Int)
  (A : Option Addr)
  (c : Nat)
  (cs : List Cse)
def Wtr.cells (a : Wtr) : List Value := [.bool a.on, .int .i64 a.ticket, .int .i64 a.seq, .slice a.A a.cs.length a.c]
def Wtr.none : Wtr := ⟨false, 0, 0, .none, 0, []⟩
instance : Cellful Wtr where
  cells := Wtr.cells
  s := 4
  dflt := Wtr.none
  len := fun _ => rfl
  one := fun a u hu => by
    simp only [Wtr.cells, List.mem_cons, List.not_mem_nil, or_false] at hu
    rcases hu with rfl | rfl | rfl | rfl <;> rfl
theorem wtr_cells {w : World} {b o : Nat} {l : List Wtr} (hc : ∀ k v, (rows l)[k]? = some v → w.cell? ⟨b, o + k, none⟩ = some v) {k : Nat} (hk : k < l.length) {x : Wtr} (hx : l.getD k Wtr.none = x) :
    w.cell? ⟨b, o + k * 4, none⟩ = some (.bool x.on) ∧ w.cell? ⟨b, o + k * 4 + 1, none⟩ = some (.int .i64 x.ticket) ∧ w.cell? ⟨b, o + k * 4 + 2, none⟩ = some (.int .i64 x.seq) ∧ w.cell? ⟨b, o + k * 4 + 3, none⟩ = some (.slice x.A x.cs.length x.c) := by
  have h := rec_cell hc hk hx
  exact ⟨h 0 _ rfl, h 1 _ rfl, h 2 _ rfl, h 3 _ rfl⟩

/-- Results as rows. -/
def Resr.none : Resr := ⟨0, 0, 0, 0⟩
instance : Cellful Resr where
  cells := Resr.cells
  s := 4
  dflt := Resr.none
  len := fun _ => rfl
  one := fun a u hu => by
    simp only [Resr.cells, List.mem_cons, List.not_mem_nil, or_false] at hu
    rcases hu with rfl | rfl | rfl | rfl <;> rfl
theorem rsr_cells {w : World} {b o : Nat} {l : List Resr} (hc : ∀ k v, (rows l)[k]? = some v → w.cell? ⟨b, o + k, none⟩ = some v) {k : Nat} (hk : k < l.length) {x : Resr} (hx : l.getD k Resr.none = x) :
    w.cell? ⟨b, o + k * 4, none⟩ = some (.int .i64 x.seq) ∧ w.cell? ⟨b, o + k * 4 + 1, none⟩ = some (.int .i64 x.case_) ∧ w.cell? ⟨b, o + k * 4 + 2, none⟩ = some (.int .i64 x.code) ∧ w.cell? ⟨b, o + k * 4 + 3, none⟩ = some (.int .i64 x.value) := by
  have h := rec_cell hc hk hx
  exact ⟨h 0 _ rfl, h 1 _ rfl, h 2 _ rfl, h 3 _ rfl⟩

end Go.Proofs.YtalkllfgedacoaaGreatDoor

namespace Go.Proofs.YtalkllfgedacoaaGreatDoor
open Go.RowKit Go.Sort

/-- Numbers with blanks ahead. -/
def lsS (s : ByteArray) : List Int → ByteArray
  | [] => s
  | n :: r => lsS (s ++ (⟨#[32]⟩ ++ itoaS n)) r
theorem lsS_snoc : ∀ (l : List Int) (s : ByteArray) (n : Int), lsS s (l ++ [n]) = lsS s l ++ (⟨#[32]⟩ ++ itoaS n)
  | [], _, _ => rfl
  | _ :: r, _, n => lsS_snoc r _ n
theorem lsS_size : ∀ (l : List Int) (s : ByteArray), (∀ n ∈ l, In64 n) → (lsS s l).size ≤ s.size + 22 * l.length
  | [], _, _ => by simp [lsS]
  | n :: r, s, h => by
    have h1 := lsS_size r (s ++ (⟨#[32]⟩ ++ itoaS n)) (fun x hx => h x (List.mem_cons_of_mem _ hx))
    have a := itoaS_size (h n (List.mem_cons_self ..))
    have e1 : (⟨#[32]⟩ : ByteArray).size = 1 := rfl
    rw [ByteArray.size_append, ByteArray.size_append, e1] at h1
    simp only [lsS, List.length_cons]
    omega

def handS (p g : Int) : Int := if p < 0 ∨ 7 < p ∨ g < 1 ∨ 4095 < g then 0 else 8 * g + p
theorem handS_in (p g : Int) : In64 (handS p g) := by
  unfold handS In64
  split <;> omega
def chanS (i : Int) (x : Chn) : ByteArray :=
  if x.used = true then
    (if x.closed = true then ⟨#[115, 108, 111, 116, 32]⟩ ++ itoaS i ++ ⟨#[32, 99, 104, 97, 110, 32]⟩ ++ itoaS (handS i x.gen) ++ ⟨#[32, 99, 97, 112, 32]⟩ ++ itoaS x.cap ++ ⟨#[32, 99, 108, 111, 115, 101, 100]⟩ ++ ⟨#[32, 104, 97, 115]⟩ ++ lsS ⟨#[]⟩ x.buf
     else ⟨#[115, 108, 111, 116, 32]⟩ ++ itoaS i ++ ⟨#[32, 99, 104, 97, 110, 32]⟩ ++ itoaS (handS i x.gen) ++ ⟨#[32, 99, 97, 112, 32]⟩ ++ itoaS x.cap ++ ⟨#[32, 104, 97, 115]⟩ ++ lsS ⟨#[]⟩ x.buf)
  else ⟨#[115, 108, 111, 116, 32]⟩ ++ itoaS i ++ ⟨#[32, 102, 114, 101, 101, 32]⟩ ++ itoaS x.gen
def waitQ (x : Wtr) : Reqr := ⟨3, 0, 0, false, x.A, x.cs.length, x.c⟩
def waitS (t : Int) (x : Wtr) : ByteArray := ⟨#[119, 97, 105, 116, 32]⟩ ++ itoaS t ++ ⟨#[32, 116, 105, 99, 107, 101, 116, 32]⟩ ++ itoaS x.ticket ++ ⟨#[32]⟩ ++ callS (waitQ x) x.cs
def doneS (t : Int) (r : Resr) : ByteArray := ⟨#[100, 111, 110, 101, 32]⟩ ++ itoaS t ++ ⟨#[32]⟩ ++ resS r

/-- Lines of records, each by its place. -/
def linesS {α : Type} (f : Int → α → List ByteArray) (d : α) (l : List α) : Nat → List ByteArray
  | 0 => []
  | k + 1 => linesS f d l k ++ f (k : Int) (l.getD k d)
def chanL (i : Int) (x : Chn) : List ByteArray := [chanS i x]
def waitL (t : Int) (x : Wtr) : List ByteArray := if x.on = true then [waitS t x] else []
def doneL (t : Int) (r : Resr) : List ByteArray := [doneS t r]
def donesS (l : List Resr) : List ByteArray := linesS doneL Resr.none l l.length
def hallS (ticket : Int) (chans : List Chn) (waits : List Wtr) (done : List Resr) : List ByteArray :=
  [⟨#[116, 105, 99, 107, 101, 116, 32]⟩ ++ itoaS ticket] ++ linesS chanL Chn.none chans chans.length ++ linesS waitL Wtr.none waits waits.length ++ donesS done
def cellsS (cap : Int) (l : List Int) (done : List Resr) : List ByteArray :=
  [⟨#[99, 97, 112, 32]⟩ ++ itoaS cap ++ ⟨#[32, 104, 97, 115]⟩ ++ lsS ⟨#[]⟩ l] ++ donesS done
theorem linesS_len {α : Type} {f : Int → α → List ByteArray} {d : α} {l : List α} (h : ∀ i x, (f i x).length ≤ 1) : ∀ k, (linesS f d l k).length ≤ k
  | 0 => Nat.le_refl _
  | k + 1 => by
    have h1 := linesS_len (d := d) (l := l) h k
    have h2 := h (k : Int) (l.getD k d)
    rw [linesS, List.length_append]
    omega

end Go.Proofs.YtalkllfgedacoaaGreatDoor

namespace Go.Proofs.YtalkllfgedacoaaGreatDoor
open Go.RowKit Go.Sort

set_option maxHeartbeats 2000000 in
theorem Handle_any (p g : Int) (w : World) : Calls Tryz.prog 80 #[.int .i64 p, .int .i64 g] w fun e w' => e = .returned (.int .i64 (handS p g)) ∧ Below w.heap.size w w' := by
  by_cases h1 : p < 0
  · have HV := Lib.hid (show handS p g = 0 by unfold handS; rw [if_pos (by omega)])
    go_enter Tryz.func80, Tryz.ntmps80
    go_wp2
    go_ret
    exact ⟨by rw [HV.out]; rfl, Below.refl _ _⟩
  by_cases h2 : 7 < p
  · have HV := Lib.hid (show handS p g = 0 by unfold handS; rw [if_pos (by omega)])
    have h2b : (8 : Int) ≤ p := by omega
    go_enter Tryz.func80, Tryz.ntmps80
    go_wp2
    go_ret
    exact ⟨by rw [HV.out]; rfl, Below.refl _ _⟩
  have h2b : ¬ (8 : Int) ≤ p := by omega
  by_cases h3 : g < 1
  · have HV := Lib.hid (show handS p g = 0 by unfold handS; rw [if_pos (by omega)])
    go_enter Tryz.func80, Tryz.ntmps80
    go_wp2
    go_ret
    exact ⟨by rw [HV.out]; rfl, Below.refl _ _⟩
  by_cases h4 : 4095 < g
  · have HV := Lib.hid (show handS p g = 0 by unfold handS; rw [if_pos (by omega)])
    go_enter Tryz.func80, Tryz.ntmps80
    go_wp2
    go_ret
    exact ⟨by rw [HV.out]; rfl, Below.refl _ _⟩
  have HV := Lib.hid (show handS p g = 8 * g + p by unfold handS; rw [if_neg (by omega)])
  have HW := Lib.hid (show handS p g = g * 8 + p by unfold handS; rw [if_neg (by omega)]; omega)
  have i1 : IntKind.i64.wrap (8 * g) = 8 * g := by simp (disch := omega) only [IntWalk.i64_in]
  have i2 : IntKind.i64.wrap (g * 8) = g * 8 := by simp (disch := omega) only [IntWalk.i64_in]
  have i3 : IntKind.i64.wrap (8 * g + p) = 8 * g + p := by simp (disch := omega) only [IntWalk.i64_in]
  have i4 : IntKind.i64.wrap (g * 8 + p) = g * 8 + p := by simp (disch := omega) only [IntWalk.i64_in]
  go_enter Tryz.func80, Tryz.ntmps80
  go_wp2
  go_ret
  exact ⟨by first | (rw [HV.out]; rfl) | (rw [HW.out]; rfl), Below.refl _ _⟩

set_option maxHeartbeats 2000000 in
theorem rHandle_any (p g : Int) (w : World) : Calls Tryz.prog 42 #[.int .i64 p, .int .i64 g] w fun e w' => e = .returned (.int .i64 (handS p g)) ∧ Below w.heap.size w w' := by
  by_cases h1 : p < 0
  · have HV := Lib.hid (show handS p g = 0 by unfold handS; rw [if_pos (by omega)])
    go_enter Tryz.func42, Tryz.ntmps42
    go_wp2
    go_ret
    exact ⟨by rw [HV.out]; rfl, Below.refl _ _⟩
  by_cases h2 : 7 < p
  · have HV := Lib.hid (show handS p g = 0 by unfold handS; rw [if_pos (by omega)])
    have h2b : (8 : Int) ≤ p := by omega
    go_enter Tryz.func42, Tryz.ntmps42
    go_wp2
    go_ret
    exact ⟨by rw [HV.out]; rfl, Below.refl _ _⟩
  have h2b : ¬ (8 : Int) ≤ p := by omega
  by_cases h3 : g < 1
  · have HV := Lib.hid (show handS p g = 0 by unfold handS; rw [if_pos (by omega)])
    go_enter Tryz.func42, Tryz.ntmps42
    go_wp2
    go_ret
    exact ⟨by rw [HV.out]; rfl, Below.refl _ _⟩
  by_cases h4 : 4095 < g
  · have HV := Lib.hid (show handS p g = 0 by unfold handS; rw [if_pos (by omega)])
    go_enter Tryz.func42, Tryz.ntmps42
    go_wp2
    go_ret
    exact ⟨by rw [HV.out]; rfl, Below.refl _ _⟩
  have HV := Lib.hid (show handS p g = 8 * g + p by unfold handS; rw [if_neg (by omega)])
  have HW := Lib.hid (show handS p g = g * 8 + p by unfold handS; rw [if_neg (by omega)]; omega)
  have i1 : IntKind.i64.wrap (8 * g) = 8 * g := by simp (disch := omega) only [IntWalk.i64_in]
  have i2 : IntKind.i64.wrap (g * 8) = g * 8 := by simp (disch := omega) only [IntWalk.i64_in]
  have i3 : IntKind.i64.wrap (8 * g + p) = 8 * g + p := by simp (disch := omega) only [IntWalk.i64_in]
  have i4 : IntKind.i64.wrap (g * 8 + p) = g * 8 + p := by simp (disch := omega) only [IntWalk.i64_in]
  go_enter Tryz.func42, Tryz.ntmps42
  go_wp2
  go_ret
  exact ⟨by first | (rw [HV.out]; rfl) | (rw [HW.out]; rfl), Below.refl _ _⟩

set_option maxHeartbeats 2000000 in
set_option maxRecDepth 100000 in
theorem Texts_same (A B : Option Addr) (c d n : Nat) (l : List ByteArray) (w : World) (hl : l.length = n) (hn : n ≤ 4611686018427387904) (hA : Rd w A (rows l)) (hB : Rd w B (rows l)) :
    Calls Tryz.prog 16 #[.slice A n c, .slice B n d] w fun e w' => e = .returned (.bool true) ∧ Below w.heap.size w w' := by
  have HA := Lib.hid hA
  have HB := Lib.hid hB
  have HL := Lib.hid hl
  clear hA hB hl
  go_enter Tryz.func16, Tryz.ntmps16
  go_wp2
  go_loopw [13] (fun i wr => ∃ k : Nat, k ≤ n ∧ i = .int .i64 k ∧ Below w.heap.size w wr) (fun i _ => n - (intOf i).toNat)
  case atStart => exact ⟨0, Nat.zero_le _, rfl, Below.refl _ _⟩
  case round =>
    obtain ⟨k, hk, rfl, hb⟩ := hrel
    have HBW := Lib.hid hb
    clear hb
    by_cases hlt : k < n
    · obtain ⟨a1, o1, rfl, hl1, x1⟩ := rd_str (HA.out.below HBW.out) (k := k) (by rw [HL.out]; exact hlt)
      obtain ⟨a2, o2, rfl, hl2, x2⟩ := rd_str (HB.out.below HBW.out) (k := k) (by rw [HL.out]; exact hlt)
      have q1 : (0 : Int) ≤ (k : Int) := by omega
      have q2 : (k : Int) < (n : Int) := by omega
      generalize l.getD k ⟨#[]⟩ = s at *
      have es : (s.toList != s.toList) = false := by simp
      go_wp2
      go_quiet (fail)
      go_wp2
      refine ⟨⟨k + 1, by omega, by go_num, Below.drewN' HBW.out nq⟩, by simp [intOf]; omega⟩
    · go_wp2
      go_ret
      obtain rfl : k = n := by omega
      exact ⟨rfl, HBW.out⟩

set_option maxHeartbeats 4000000 in
set_option maxRecDepth 100000 in
theorem rlist_any (A : Option Addr) (n c : Nat) (l : List Int) (w : World) (hl : l.length = n) (hn : n ≤ 1048576) (hi : ∀ x ∈ l, In64 x) (hA : Rd w A (ints l)) :
    Calls Tryz.prog 43 #[.slice A n c] w fun e w' => e = .returned (.string (lsS ⟨#[]⟩ l)) ∧ Below w.heap.size w w' := by
  have HA := Lib.hid hA
  have HL := Lib.hid hl
  have HI := Lib.hid hi
  have HSZ : RowKit.Hid (∀ k, k ≤ n → (lsS ⟨#[]⟩ (l.take k)).size ≤ 30000000) := Lib.hid (fun k hk => by
    have h := lsS_size (l.take k) ⟨#[]⟩ (fun o ho' => hi o (List.mem_of_mem_take ho'))
    have e1 : (⟨#[]⟩ : ByteArray).size = 0 := rfl
    rw [e1, List.length_take] at h
    omega)
  clear hA hl hi
  go_enter Tryz.func43, Tryz.ntmps43
  go_wp2_with fail
  go_loopg [8, 3] n (fun gg i s wr => ∃ k : Nat, k ≤ n ∧ gg = n - k ∧ i = .int .i64 k ∧ s = .string (lsS ⟨#[]⟩ (l.take k)) ∧ Below w.heap.size w wr)
  case atStart => exact ⟨0, Nat.zero_le _, rfl, rfl, rfl, Below.refl _ _⟩
  case round =>
    obtain ⟨k, hk, hg, rfl, rfl, hb⟩ := hrel
    have HG := Lib.hid hg
    have HB := Lib.hid hb
    clear hg hb
    by_cases hlt : k < n
    · have q1 : (k : Int) < (n : Int) := by omega
      have hkl : k < l.length := by rw [HL.out]; exact hlt
      obtain ⟨b2, o2, rfl, hbl, hcl⟩ := (HA.out.below HB.out).at_ (by rw [ints_length]; omega)
      have x1 : wr.cell? ⟨b2, o2 + k, none⟩ = some (.int .i64 (l.getD k 0)) := hcl k _ (ints_at hkl)
      have HIN := Lib.hid (HI.out (l.getD k 0) (by rw [List.getD, List.getElem?_eq_getElem hkl]; exact List.getElem_mem hkl))
      have hS0 := HSZ.out k hk
      have HTK : RowKit.Hid (lsS ⟨#[]⟩ (l.take (k + 1)) = lsS ⟨#[]⟩ (l.take k) ++ (⟨#[32]⟩ ++ itoaS (l.getD k 0))) := Lib.hid (by
        rw [List.take_succ_eq_append_getElem hkl, lsS_snoc]
        congr 3
        rw [List.getD, List.getElem?_eq_getElem hkl]
        rfl)
      clear hcl hkl
      generalize l.getD k 0 = x at *
      generalize lsS ⟨#[]⟩ (l.take k) = S at *
      have HD := Lib.hid (fun W => rdec_any x W HIN.out)
      have hz := itoaS_size HIN.out
      generalize itoaS x = z at *
      have d0 : ¬ 9223372036854775807 < S.size + 1 := by omega
      have d1 : ¬ 9223372036854775807 < S.size + 1 + z.size := by omega
      clear hS0 hz
      go_wp2_with (go_at_call 37; refine (HD.out _).mono ?_; rintro er w2 ⟨rfl, hb2⟩; have HB2 := Lib.hid (HB.out.trans (hb2.mono HB.out.size)); clear hb2)
      go_roundg (n - (k + 1))
      case measure => rw [HG.out]; omega
      case rel => exact ⟨k + 1, by omega, rfl, by go_num, by rw [HTK.out]; simp only [ByteArray.append_assoc], HB2.out⟩
    · obtain rfl : k = n := by omega
      have q1 : ¬ (k : Int) < (k : Int) := by omega
      have HF : RowKit.Hid (lsS ⟨#[]⟩ l = lsS ⟨#[]⟩ (l.take k)) := Lib.hid (by rw [List.take_of_length_le (by rw [HL.out]; exact Nat.le_refl _)])
      go_wp2_with fail
      go_ret
      exact ⟨by rw [HF.out]; rfl, HB.out⟩

end Go.Proofs.YtalkllfgedacoaaGreatDoor
