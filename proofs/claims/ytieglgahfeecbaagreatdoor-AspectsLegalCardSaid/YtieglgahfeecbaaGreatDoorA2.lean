/- How many words a thing's state and a node take, of any shape: the program's functions and the document's, as plain numbers. -/
import Derived.Test.YtieglgahfeecbaaGreatDoorA1
import Derived.IntWalk
namespace Go.Proofs.YtieglgahfeecbaaGreatDoor
open Go.RowKit Go.Sort

/-- A channel, a call that waits, without where they lie. -/
structure ChP where
  (gen cap : Int)
  (used closed : Bool)
  (buf : List Int)
structure WtP where
  (on : Bool)
  (ticket seq : Int)
  (cs : List Cse)
def ChP.none : ChP := ⟨0, 0, false, false, []⟩
def WtP.none : WtP := ⟨false, 0, 0, []⟩
def Chn.p (x : Chn) : ChP := ⟨x.gen, x.cap, x.used, x.closed, x.buf⟩
def Wtr.p (x : Wtr) : WtP := ⟨x.on, x.ticket, x.seq, x.cs⟩
theorem Chn.none_p : Chn.none.p = ChP.none := rfl
theorem Wtr.none_p : Wtr.none.p = WtP.none := rfl
theorem wtr_map_getD (l : List Wtr) (k : Nat) : (l.map Wtr.p).getD k WtP.none = (l.getD k Wtr.none).p := by
  simp only [List.getD, List.getElem?_map]
  cases l[k]? <;> rfl
theorem chn_map_getD (l : List Chn) (k : Nat) : (l.map Chn.p).getD k ChP.none = (l.getD k Chn.none).p := by
  simp only [List.getD, List.getElem?_map]
  cases l[k]? <;> rfl

/-- What a call asks for. -/
structure ReqP where
  (kind arg value : Int)
  (dflt : Bool)
  (cs : List Cse)

/-- Is there such a place? -/
def inL (n : Nat) (t : Int) : Prop := 0 ≤ t ∧ t < n
instance (n : Nat) (t : Int) : Decidable (inL n t) := by unfold inL; infer_instance

/-- A thread's call waits from now on; it waits no more. -/
def putS (l : List WtP) (t : Int) (w : WtP) : List WtP × Bool :=
  if inL l.length t ∧ (l.getD t.toNat WtP.none).on = false then (l.set t.toNat ⟨true, w.ticket, w.seq, w.cs⟩, true) else (l, false)
def cutS (l : List WtP) (t : Int) : List WtP × Bool :=
  if inL l.length t ∧ (l.getD t.toNat WtP.none).on = true then (l.set t.toNat WtP.none, true) else (l, false)

/-- Where the first case of a direction and a handle is. -/
def isC (dir handle : Int) (c : Cse) : Bool := c.dir == dir && c.handle == handle
def placeS (w : WtP) (dir handle : Int) : Int := if w.on = true then firstV (isC dir handle) w.cs 0 else -1
def isH (handle : Int) (c : Cse) : Bool := c.handle == handle
def whichS (w : WtP) (handle : Int) : Int := if w.on = true then firstV (isH handle) w.cs 0 else -1

/-- Whose turn it is among the first k: the thread, and which case. -/
def firstK (l : List WtP) (dir handle : Int) : Nat → Option (Nat × Int)
  | 0 => .none
  | k + 1 =>
    let i := placeS (l.getD k WtP.none) dir handle
    if i < 0 then firstK l dir handle k
    else match firstK l dir handle k with
      | .none => some (k, i)
      | some (t, j) => if (l.getD k WtP.none).ticket < (l.getD t WtP.none).ticket then some (k, i) else some (t, j)
def firstS (l : List WtP) (dir handle : Int) : Option (Nat × Int) := firstK l dir handle l.length
/-- As it is told. -/
def trd (o : Option (Nat × Int)) : Int := match o with | .none => 0 | some (t, _) => t
def wch (o : Option (Nat × Int)) : Int := match o with | .none => 0 | some (_, i) => i

theorem firstK_lt (l : List WtP) (dir handle : Int) : ∀ (k : Nat) (t : Nat) (i : Int), firstK l dir handle k = some (t, i) → t < k ∧ 0 ≤ i ∧ i = placeS (l.getD t WtP.none) dir handle
  | 0, t, i, h => by simp [firstK] at h
  | k + 1, t, i, h => by
    simp only [firstK] at h
    split at h
    · have := firstK_lt l dir handle k t i h; omega
    · rename_i hi
      cases hf : firstK l dir handle k with
      | none =>
        rw [hf] at h
        simp only [Option.some.injEq, Prod.mk.injEq] at h
        obtain ⟨rfl, rfl⟩ := h
        exact ⟨by omega, by omega, rfl⟩
      | some p =>
        obtain ⟨t', j⟩ := p
        rw [hf] at h
        simp only at h
        have h' := firstK_lt l dir handle k t' j hf
        split at h
        · simp only [Option.some.injEq, Prod.mk.injEq] at h
          obtain ⟨rfl, rfl⟩ := h
          exact ⟨by omega, by omega, rfl⟩
        · simp only [Option.some.injEq, Prod.mk.injEq] at h
          obtain ⟨rfl, rfl⟩ := h
          exact ⟨by omega, h'.2.1, h'.2.2⟩

/-- Does it wait for a channel? -/
def onB (handle : Int) (w : WtP) : Bool := w.on && w.cs.any (isH handle)
def onsS (l : List WtP) (handle : Int) : List Int := ((List.range l.length).filter fun t : Nat => onB handle (l.getD t WtP.none)).map fun t : Nat => (t : Int)

/-- A thread, and what its call came to. -/
abbrev TldP := Int × Resr
def endedS (l : List WtP) (t : Int) (which code value : Int) : TldP := (t, ⟨(l.getD t.toNat WtP.none).seq, which, code, value⟩)

def readyS (c : ChP) (handle : Int) (l : List WtP) (dir : Int) : Bool :=
  c.used && (if dir = 1 then c.closed || (firstS l 2 handle).isSome || decide ((c.buf.length : Int) < c.cap)
    else if dir = 2 then c.closed || (firstS l 1 handle).isSome || decide (0 < c.buf.length) else false)

/-- A channel, who waits, what comes of it, and what calls that waited came to. -/
structure GotP where
  (c : ChP)
  (l : List WtP)
  (r : Resr)
  (told : List TldP)
def sendS (c : ChP) (handle : Int) (l : List WtP) (value : Int) : GotP :=
  match firstS l 2 handle with
  | some (t, i) => ⟨c, l.set t WtP.none, Resr.none, [endedS l t i 0 value]⟩
  | .none => ⟨⟨c.gen, c.cap, c.used, c.closed, c.buf ++ [value]⟩, l, Resr.none, []⟩
def caseV (l : List WtP) (t : Nat) (i : Int) : Int := ((l.getD t WtP.none).cs.getD i.toNat Cse.none).value
def recvS (c : ChP) (handle : Int) (l : List WtP) : GotP :=
  match firstS l 1 handle with
  | .none => ⟨⟨c.gen, c.cap, c.used, c.closed, c.buf.drop 1⟩, l, ⟨0, 0, 0, c.buf.getD 0 0⟩, []⟩
  | some (t, i) => ⟨⟨c.gen, c.cap, c.used, c.closed, (c.buf ++ [caseV l t i]).drop 1⟩, l.set t WtP.none, ⟨0, 0, 0, (c.buf ++ [caseV l t i]).getD 0 0⟩, [endedS l t i 0 0]⟩
def doS (c : ChP) (handle : Int) (l : List WtP) (dir value : Int) : GotP :=
  if readyS c handle l dir = false then ⟨c, l, ⟨0, 0, 10, 0⟩, []⟩
  else if dir = 1 ∧ c.closed = false then sendS c handle l value
  else if dir = 2 ∧ (0 < c.buf.length ∨ (firstS l 1 handle).isSome = true) then recvS c handle l
  else ⟨c, l, ⟨0, 0, 9, 0⟩, []⟩

/-- Those that wait for a channel wait no more. -/
def freeW (handle : Int) (w : WtP) : WtP := if onB handle w = true then WtP.none else w
/-- A channel that can be closed is closed. -/
def mayShut (c : ChP) : Bool := c.used && !c.closed
def idleS (c : ChP) (handle : Int) (l : List WtP) : Bool := c.used && c.closed && decide (c.buf.length = 0) && !(l.any (onB handle))

/-- A hall. -/
structure HallP where
  (ticket : Int)
  (chans : List ChP)
  (waits : List WtP)
  (done : List Resr)

def tellS (d : List Resr) : List TldP → List Resr
  | [] => d
  | x :: r => tellS (if inL d.length x.1 then d.set x.1.toNat x.2 else d) r
theorem tellS_len : ∀ (l : List TldP) (d : List Resr), (tellS d l).length = d.length
  | [], _ => rfl
  | x :: r, d => by
    rw [tellS, tellS_len r]
    split <;> simp

/-- The place of a handle's channel. -/
def plcOk (h : Int) : Bool := decide (8 ≤ h) && decide (h < 32768)
def findB (l : List ChP) (h : Int) : Bool :=
  plcOk h && decide (h % 8 < (l.length : Int)) && (l.getD (h % 8).toNat ChP.none).used && ((l.getD (h % 8).toNat ChP.none).gen == h / 8)
def findP (h : Int) : Nat := (h % 8).toNat

/-- The first place at which a channel can be made. -/
def roomK (gens : Int) : List ChP → Nat → Option Nat
  | [], _ => .none
  | c :: r, k => if c.used = true then roomK gens r (k + 1) else if min gens 4095 ≤ c.gen then roomK gens r (k + 1) else some k
/-- Is there one that had all its generations? -/
def spentB (gens : Int) (l : List ChP) : Bool := l.any fun c => !c.used && decide (min gens 4095 ≤ c.gen)
def rC (code : Int) : Resr := ⟨0, 0, code, 0⟩
def rV (v : Int) : Resr := ⟨0, 0, 0, v⟩
def handP (p g : Int) : Int := if p < 0 ∨ 7 < p ∨ g < 1 ∨ 4095 < g then 0 else 8 * g + p

def openS (gens cap : Int) (h : HallP) (capacity : Int) : HallP × Resr :=
  if capacity < 0 ∨ cap < capacity then (h, rC 1)
  else match roomK gens h.chans 0 with
    | some k => ({ h with chans := h.chans.set k ⟨(h.chans.getD k ChP.none).gen + 1, capacity, true, false, []⟩ }, rV (handP k ((h.chans.getD k ChP.none).gen + 1)))
    | .none => (h, rC (if spentB gens h.chans = true then 7 else 6))

def freeS (h : HallP) (handle : Int) : HallP × Resr :=
  if findB h.chans handle = false then (h, rC 8)
  else if idleS (h.chans.getD (findP handle) ChP.none) handle h.waits = false then (h, rC 13)
  else ({ h with chans := h.chans.set (findP handle) ⟨(h.chans.getD (findP handle) ChP.none).gen, 0, false, false, []⟩ }, rC 0)

def caseOk (k : Cse) : Bool := (k.dir == 1 || k.dir == 2) && decide (0 ≤ k.value) && decide (k.value ≤ 4294967295)
def casesS (l : List ChP) (cs : List Cse) : Int :=
  if cs.length = 0 ∨ 3 < cs.length then 1 else if cs.all caseOk = false then 1 else if (cs.all fun k => findB l k.handle) = false then 8 else 0

/-- The first case that is ready. -/
def pickK (h : HallP) : List Cse → Nat → Option (Nat × Cse)
  | [], _ => .none
  | k :: r, i => if readyS (h.chans.getD (findP k.handle) ChP.none) k.handle h.waits k.dir = true then some (i, k) else pickK h r (i + 1)
def oneS (h : HallP) (which : Nat) (k : Cse) : HallP × Resr :=
  let g := doS (h.chans.getD (findP k.handle) ChP.none) k.handle h.waits k.dir k.value
  (⟨h.ticket, h.chans.set (findP k.handle) g.c, g.l, tellS h.done g.told⟩, ⟨g.r.seq, which, g.r.code, g.r.value⟩)

def chooseS (h : HallP) (t seq : Int) (q : ReqP) : HallP × Resr :=
  if casesS h.chans q.cs ≠ 0 then (h, rC (casesS h.chans q.cs))
  else match pickK h q.cs 0 with
    | some (i, k) => oneS h i k
    | .none =>
      if q.dflt = true then (h, rC 10)
      else if 4294967295 ≤ h.ticket then (h, rC 7)
      else if (putS h.waits t ⟨true, h.ticket, seq, q.cs⟩).2 = false then (h, rC 13)
      else ({ h with waits := (putS h.waits t ⟨true, h.ticket, seq, q.cs⟩).1, ticket := h.ticket + 1 }, rC 14)

/-- What those that waited for a channel that is closed came to. -/
def shutDone (handle : Int) (l : List WtP) (d : List Resr) : List Resr :=
  d.mapIdx fun t r => if t < l.length ∧ onB handle (l.getD t WtP.none) = true then (endedS l (t : Int) (firstV (isH handle) (l.getD t WtP.none).cs 0) 9 0).2 else r
def shutH (h : HallP) (handle : Int) : HallP × Resr :=
  if findB h.chans handle = false then (h, rC 8)
  else
    let c := h.chans.getD (findP handle) ChP.none
    if mayShut c = false then (h, rC 9)
    else (⟨h.ticket, h.chans.set (findP handle) ⟨c.gen, c.cap, c.used, true, c.buf⟩, h.waits.map (freeW handle), shutDone handle h.waits h.done⟩, rC 0)

def lookS (h : HallP) (q : ReqP) : Resr :=
  if findB h.chans q.arg = false then rC 8
  else if q.kind = 6 then rV (h.chans.getD (findP q.arg) ChP.none).cap
  else rV ((h.chans.getD (findP q.arg) ChP.none).buf.length : Int)

def cancelS (h : HallP) (own t n : Int) : HallP × Resr :=
  if inL h.waits.length t ∧ t ≠ own ∧ (h.waits.getD t.toNat WtP.none).on = true ∧ (h.waits.getD t.toNat WtP.none).seq = n
  then ({ h with waits := h.waits.set t.toNat WtP.none, done := if inL h.done.length t then h.done.set t.toNat ⟨n, 0, 11, 0⟩ else h.done }, rC 0)
  else (h, rC 12)

def callH (gens cap : Int) (h : HallP) (t seq : Int) (q : ReqP) : HallP × Resr :=
  if q.kind = 1 then openS gens cap h q.arg
  else if q.kind = 2 then freeS h q.arg
  else if q.kind = 3 then chooseS h t seq q
  else if q.kind = 4 then shutH h q.arg
  else if q.kind = 5 ∨ q.kind = 6 then (h, lookS h q)
  else if q.kind = 7 then cancelS h t q.arg q.value
  else (h, rC 1)

/-- A hall behind a call of a thread, by its number. -/
def applyH (gens cap : Int) (h : HallP) (t seq : Int) (q : ReqP) : HallP :=
  let x := callH gens cap h t seq q
  { x.1 with done := if inL x.1.done.length t then x.1.done.set t.toNat ⟨seq, x.2.case_, x.2.code, x.2.value⟩ else x.1.done }

theorem firstV_rng {α : Type} {p : α → Bool} : ∀ (l : List α) (k : Nat), firstV p l k < ((k + l.length : Nat) : Int)
  | [], k => by simp [firstV]; omega
  | x :: r, k => by
    simp only [firstV]
    split
    · simp; omega
    · have := firstV_rng (p := p) r (k + 1); simp at *; omega


end Go.Proofs.YtieglgahfeecbaaGreatDoor

namespace Go.Proofs.YtieglgahfeecbaaGreatDoor
open Go.RowKit

/-- The function is one with a text, and a call of it enters that. -/
def Enters (f : FuncId) : Prop := ∀ (args : Array Value) (w : World), Sem.run Tryz.prog (callFunc f args) w = .ok (.enter f args) w
theorem enters_of {f : FuncId} {fn : Func} (hf : Tryz.prog.funcs[f]? = some fn) (h1 : (fn.name == "runtime.NumGoroutine") = false) (h2 : fn.body.isNone = false) : Enters f := by
  intro args w
  simp only [beq_eq_false_iff_ne, ne_eq] at h1
  simp only [Option.isNone_eq_false_iff] at h2
  simp [callFunc, go_sem, hf, h1, Option.isSome_iff_ne_none.1 h2]

end Go.Proofs.YtieglgahfeecbaaGreatDoor

namespace Go.Proofs.YtieglgahfeecbaaGreatDoor
open Go.RowKit

/-- The closure (f, caps), asked at x in a world behind w, answers p x and leaves alone what was there. -/
def Asks (w : World) (f : FuncId) (caps : Array Value) (p : Int → Bool) (l : List Int) : Prop :=
  ∀ x, x ∈ l → ∀ w', Below w.heap.size w w' → Calls Tryz.prog f (#[.int .i64 x] ++ caps) w' fun e w'' => e = .returned (.bool (p x)) ∧ Below w'.heap.size w' w''

def firstAt (p : Int → Bool) : List Int → Nat → Int
  | [], _ => -1
  | x :: r, k => if p x then (k : Int) else firstAt p r (k + 1)

theorem firstAt_none {p : Int → Bool} : ∀ (l : List Int) (k : Nat), (∀ x ∈ l, p x = false) → firstAt p l k = -1
  | [], _, _ => rfl
  | x :: r, k, h => by simp [firstAt, h x (by simp), firstAt_none r (k + 1) (fun y hy => h y (by simp [hy]))]

theorem firstAt_lo {p : Int → Bool} : ∀ (l : List Int) (k : Nat), -1 ≤ firstAt p l k ∧ (0 ≤ firstAt p l k ↔ l.any p = true)
  | [], k => by simp [firstAt]
  | x :: r, k => by
    have := firstAt_lo (p := p) r (k + 1)
    simp only [firstAt, List.any_cons]
    by_cases h : p x = true
    · simp [h]
    · simp only [Bool.not_eq_true] at h; simp [h, this]

theorem firstAt_hit {p : Int → Bool} : ∀ (l : List Int) (k j : Nat) (_ : j < l.length), (∀ i, i < j → p (l.getD i 0) = false) → p (l.getD j 0) = true → firstAt p l k = (k + j : Nat)
  | x :: r, k, 0, _, _, hj => by simp at hj; simp [firstAt, hj]
  | x :: r, k, j + 1, h, hi, hj => by
    have h0 := hi 0 (by omega)
    simp at h0
    simp [firstAt, h0]
    rw [firstAt_hit r (k + 1) j (by simpa using h) (fun i hl => by simpa using hi (i + 1) (by omega)) (by simpa using hj)]
    simp; omega

set_option maxHeartbeats 400000 in
set_option maxRecDepth 100000 in
theorem IndexFunc_any (A : Option Addr) (c : Nat) (l : List Int) (f : FuncId) (caps : Array Value) (p : Int → Bool) (w : World) (hl : l.length ≤ maxLen)
    (hR : Rd w A (ints l)) (hf : Enters f) (hp : Asks w f caps p l) :
    Calls Tryz.prog 97 #[.slice A l.length c, .func (.func f) #[] caps] w fun e w' => e = .returned (.int .i64 (firstAt p l 0)) ∧ Below w.heap.size w w' := by
  unfold maxLen at hl
  have HR := Lib.hid hR
  have HP := Lib.hid hp
  clear hR hp
  generalize hn : l.length = n at hl ⊢
  have HN := Lib.hid hn
  clear hn
  go_enter Tryz.func97, Tryz.ntmps97
  go_wp2
  go_loopw [8] (fun i wr => ∃ k : Nat, k ≤ n ∧ i = .int .i64 k ∧ Below w.heap.size w wr ∧ ∀ j, j < k → p (l.getD j 0) = false) (fun i _ => n - (intOf i).toNat)
  case atStart => exact ⟨0, Nat.zero_le _, rfl, Below.refl _ _, fun j hj => absurd hj (by omega)⟩
  case round =>
    obtain ⟨k, hk, rfl, hb, hno⟩ := hrel
    have HNO := Lib.hid hno
    clear hno
    by_cases hlt : k < n
    · have hkl : k < l.length := by rw [HN.out]; exact hlt
      obtain ⟨b, o, rfl, hbl, hc⟩ := HR.out.at_ (by rw [ints_length]; omega)
      have hcell : wr.cell? ⟨b, o + k, none⟩ = some (.int .i64 (l.getD k 0)) := by
        rw [hb.cell (p := ⟨b, o + k, none⟩) hbl]; exact hc k _ (ints_at hkl)
      have HC := Lib.hid hc
      clear hc
      have hmem : l.getD k 0 ∈ l := by simp [hkl]
      generalize hx : l.getD k 0 = x at hcell hmem
      have HX := Lib.hid hx
      clear hx hkl
      have hcall := HP.out x hmem wr hb
      have HCALL := Lib.hid hcall
      clear hcall hmem
      have hrun := hf (#[.int .i64 x] ++ caps) wr
      by_cases hpx : p x = true
      · go_wp2_with (first | (refine HCALL.out.mono ?_; rintro e w1 ⟨rfl, hb1⟩))
        go_ret
        exact ⟨ret_int (by rw [firstAt_hit l 0 k (by rw [HN.out]; exact hlt) HNO.out (by rw [HX.out]; exact hpx)]; simp), hb.trans (hb1.mono hb.size)⟩
      · simp only [Bool.not_eq_true] at hpx
        go_wp2_with (first | (refine HCALL.out.mono ?_; rintro e w1 ⟨rfl, hb1⟩))
        go_roundw
        case rel =>
          refine ⟨k + 1, by omega, by go_num, hb.trans (hb1.mono hb.size), fun j hj => ?_⟩
          by_cases hjk : j = k
          · subst hjk; rw [HX.out]; exact hpx
          · exact HNO.out j (by omega)
        case measure => simp [intOf]; omega
    · go_wp2
      go_ret
      refine ⟨ret_int ?_, hb⟩
      rw [firstAt_none l 0 (fun x hx => ?_)]
      obtain ⟨j, hj, rfl⟩ := List.getElem_of_mem hx
      have := HNO.out j (by have := HN.out; omega)
      simpa [List.getD, hj] using this

set_option maxHeartbeats 400000 in
theorem ContainsFunc_any (A : Option Addr) (c : Nat) (l : List Int) (f : FuncId) (caps : Array Value) (p : Int → Bool) (w : World) (hl : l.length ≤ maxLen)
    (hR : Rd w A (ints l)) (hf : Enters f) (hp : Asks w f caps p l) :
    Calls Tryz.prog 85 #[.slice A l.length c, .func (.func f) #[] caps] w fun e w' => e = .returned (.bool (l.any p)) ∧ Below w.heap.size w w' := by
  have HI := Lib.hid (IndexFunc_any A c l f caps p w hl hR hf hp)
  have hlo := firstAt_lo (p := p) l 0
  have HL := Lib.hid hlo
  clear hR hp hf hl hlo
  by_cases h : 0 ≤ firstAt p l 0
  all_goals
    go_enter Tryz.func85, Tryz.ntmps85
    go_wp2_with (first | (refine HI.out.mono ?_; rintro e w1 ⟨rfl, hb1⟩))
    go_ret
    refine ⟨ret_bool ?_, hb1⟩
    have e := HL.out.2
    first | exact (e.1 h).symm | (rw [Bool.eq_iff_iff, decide_eq_true_iff]; exact e) | (rw [eq_comm, Bool.eq_false_iff]; exact fun h' => h (e.2 h'))

end Go.Proofs.YtieglgahfeecbaaGreatDoor

namespace Go.Proofs.YtieglgahfeecbaaGreatDoor
open Go.RowKit

structure Cfg where
  (kind threads chans cap nodes retire patience tags seqs gens : Int)
  (start : List Int)
  (sa : Option Addr)
  (sc : Nat)

abbrev cfgV (c : Cfg) : Value := .agg #[.int .i64 c.kind, .int .i64 c.threads, .int .i64 c.chans, .int .i64 c.cap, .int .i64 c.nodes, .int .i64 c.retire, .int .i64 c.patience, .int .i64 c.tags, .int .i64 c.seqs, .int .i64 c.gens, .slice c.sa c.start.length c.sc]

/-- The shape's slice lies in w. -/
def CfgIn (w : World) (c : Cfg) : Prop := Rd w c.sa (ints c.start) ∧ c.start.length ≤ maxLen

theorem CfgIn.below {w w' : World} {c : Cfg} (h : CfgIn w c) (hb : Below w.heap.size w w') : CfgIn w' c := ⟨h.1.below hb, h.2⟩
theorem CfgIn.alloc {w : World} {c : Cfg} (h : CfgIn w c) (o : Obj) : CfgIn (w.alloc o) c := ⟨h.1.alloc o, h.2⟩

def inB (n a b : Int) : Bool := decide (a ≤ n) && decide (n ≤ b)

def ownB (c : Cfg) : Bool :=
  if c.kind == 1 || c.kind == 2 then inB c.cap 1 16 && c.chans == 0 && c.gens == 0 && (c.start.length : Int) == 0
  else if c.kind == 3 then inB c.chans 1 8 && inB c.cap 0 8 && inB c.gens 1 4095 && decide ((c.start.length : Int) ≤ c.chans) && !(c.start.any fun n => !inB n 0 c.cap)
  else false

def chkB (c : Cfg) : Bool :=
  inB c.threads 1 64 && inB c.nodes 1 64 && inB c.retire 1 32 && inB c.patience 0 4 && inB c.tags 1 4294967295 && inB c.seqs 1 1048575 && ownB c

def chkE (c : Cfg) : Int := if chkB c = true then 0 else 1

set_option maxHeartbeats 400000 in
theorem in_any (n a b : Int) (w : World) :
    Calls Tryz.prog 48 #[.int .i64 n, .int .i64 a, .int .i64 b] w fun e w' => e = .returned (.bool (inB n a b)) ∧ w = w' := by
  unfold inB
  by_cases h1 : a ≤ n <;> by_cases h2 : n ≤ b
  all_goals
    go_enter Tryz.func48, Tryz.ntmps48
    go_wp2
    go_ret
    exact ⟨by simp [h1, h2], rfl⟩

set_option maxHeartbeats 400000 in
theorem rin_any (n a b : Int) (w : World) :
    Calls Tryz.prog 51 #[.int .i64 n, .int .i64 a, .int .i64 b] w fun e w' => e = .returned (.bool (inB n a b)) ∧ w = w' := by
  unfold inB
  by_cases h1 : a ≤ n <;> by_cases h2 : n ≤ b
  all_goals
    go_enter Tryz.func51, Tryz.ntmps51
    go_wp2
    go_ret
    exact ⟨by simp [h1, h2], rfl⟩

set_option maxHeartbeats 400000 in
theorem own1_any (n m : Int) (b : Nat) (w : World) (hc : w.cell? ⟨b, 3, none⟩ = some (.int .i64 m)) :
    Calls Tryz.prog 86 #[.int .i64 n, .pointer (some ⟨b, 0, none⟩)] w fun e w' => e = .returned (.bool (!inB n 0 m)) ∧ Below w.heap.size w w' := by
  go_enter Tryz.func86, Tryz.ntmps86
  go_wp2_with (go_at_call 48; refine (in_any _ _ _ _).mono ?_; rintro e w' ⟨rfl, rfl⟩)
  go_ret
  exact ⟨rfl, Below.refl _ _⟩

theorem own1_enters : Enters 86 := enters_of Tryz.func86 (by kernel_rfl) (by kernel_rfl)

theorem own1_asks (m : Int) (b : Nat) (w : World) (l : List Int) (hlt : b < w.heap.size) (hc : w.cell? ⟨b, 3, none⟩ = some (.int .i64 m)) :
    Asks w 86 #[.pointer (some ⟨b, 0, none⟩)] (fun n => !inB n 0 m) l := by
  intro x _ w' hb'
  refine own1_any x m _ _ ?_
  rw [hb'.cell (p := ⟨b, 3, none⟩) hlt]
  exact hc

set_option maxHeartbeats 1000000 in
theorem own_any (c : Cfg) (w : World) (hcf : CfgIn w c) :
    Calls Tryz.prog 49 #[cfgV c] w fun e w' => e = .returned (.bool (ownB c)) ∧ Below w.heap.size w w' := by
  have HC := Lib.hid hcf
  clear hcf
  unfold cfgV
  by_cases k1 : c.kind = 1
  · have e1 : (c.kind == 1) = true := by simp [k1]
    have HK := Lib.hid k1
    clear k1
    go_enter Tryz.func49, Tryz.ntmps49
    go_wp2_with (go_at_call 48; refine (in_any _ _ _ _).mono ?_; rintro e w' ⟨rfl, rfl⟩)
    all_goals
      go_ret
      refine ⟨ret_bool ?_, (Below.refl _ _).alloc (Nat.le_refl _) _⟩
      simp [ownB, HK.out, *]
  by_cases k2 : c.kind = 2
  · have e1 : (c.kind == 1) = false := by simp [k2]
    have e2 : (c.kind == 2) = true := by simp [k2]
    have HK := Lib.hid k2
    clear k2
    go_enter Tryz.func49, Tryz.ntmps49
    go_wp2_with (go_at_call 48; refine (in_any _ _ _ _).mono ?_; rintro e w' ⟨rfl, rfl⟩)
    all_goals
      go_ret
      refine ⟨ret_bool ?_, (Below.refl _ _).alloc (Nat.le_refl _) _⟩
      simp [ownB, HK.out, *]
  by_cases k3 : c.kind = 3
  · have e1 : (c.kind == 1) = false := by simp [k1]
    have e2 : (c.kind == 2) = false := by simp [k2]
    have e3 : (c.kind == 3) = true := by simp [k3]
    have HK := Lib.hid k3
    clear k1 k2 k3
    go_enter Tryz.func49, Tryz.ntmps49
    go_wp2_with (first
      | (go_at_call 48; refine (in_any _ _ _ _).mono ?_; rintro e w' ⟨rfl, rfl⟩)
      | (go_at_call 85
         refine (ContainsFunc_any c.sa c.sc c.start 86 #[.pointer (some ⟨w.heap.size, 0, none⟩)] (fun n => !inB n 0 c.cap) _ HC.out.2 (HC.out.1.alloc _) own1_enters (own1_asks _ _ _ _ (by simp) (by simp))).mono ?_
         rintro e w1 ⟨rfl, hb1⟩))
    all_goals
      go_ret
      refine ⟨ret_bool ?_, ?_⟩
      · first | (simp [ownB, HK.out, *]; done) | (simp [ownB, HK.out, *]; intros; omega)
      · first | exact (Below.refl _ _).alloc (Nat.le_refl _) _ | exact ((Below.refl _ _).alloc (Nat.le_refl _) _).trans (hb1.mono (by simp))
  · have e1 : (c.kind == 1) = false := by simp [k1]
    have e2 : (c.kind == 2) = false := by simp [k2]
    have e3 : (c.kind == 3) = false := by simp [k3]
    have HK := Lib.hid (And.intro k1 (And.intro k2 k3))
    clear k1 k2 k3
    go_enter Tryz.func49, Tryz.ntmps49
    go_wp2
    go_ret
    refine ⟨ret_bool ?_, (Below.refl _ _).alloc (Nat.le_refl _) _⟩
    simp [ownB, HK.out.1, HK.out.2.1, HK.out.2.2]

set_option maxHeartbeats 1000000 in
theorem Check_any (c : Cfg) (w : World) (hcf : CfgIn w c) :
    Calls Tryz.prog 20 #[cfgV c] w fun e w' => e = .returned (.int .i64 (chkE c)) ∧ Below w.heap.size w w' := by
  have HC := Lib.hid hcf
  clear hcf
  unfold cfgV
  by_cases ho : ownB c = true
  all_goals
    go_enter Tryz.func20, Tryz.ntmps20
    go_wp2_with (first
      | (go_at_call 48; refine (in_any _ _ _ _).mono ?_; rintro e w' ⟨rfl, rfl⟩)
      | (go_at_call 49; refine (own_any c _ (HC.out.alloc _)).mono ?_; rintro e w1 ⟨rfl, hb1⟩))
    all_goals
      go_ret
      refine ⟨ret_int ?_, ?_⟩
      · simp [chkE, chkB, *]
      · first | exact (Below.refl _ _).alloc (Nat.le_refl _) _ | exact ((Below.refl _ _).alloc (Nat.le_refl _) _).trans (hb1.mono (by simp))

/-- The document's Check, over a loop. -/
theorem any_take_succ {p : Int → Bool} (l : List Int) (k : Nat) (h : k < l.length) : (l.take (k + 1)).any p = ((l.take k).any p || p (l.getD k 0)) := by
  rw [List.take_succ_eq_append_getElem h, List.any_append, List.any_cons, List.any_nil, Bool.or_false]
  simp only [List.getD, List.getElem?_eq_getElem h, Option.getD_some]

set_option maxHeartbeats 2000000 in
set_option maxRecDepth 100000 in
theorem rCheck_any (c : Cfg) (w : World) (hcf : CfgIn w c) :
    Calls Tryz.prog 22 #[cfgV c] w fun e w' => e = .returned (.int .i64 (chkE c)) ∧ Below w.heap.size w w' := by
  obtain ⟨hR, hl⟩ := hcf
  unfold maxLen at hl
  have HR := Lib.hid hR
  clear hR
  unfold cfgV
  generalize hn : c.start.length = n at hl ⊢
  have HN := Lib.hid hn
  clear hn
  generalize c.sa = A at HR ⊢
  go_enter Tryz.func22, Tryz.ntmps22
  go_wp2_with (first
      | (go_at_call 51; refine (rin_any _ _ _ _).mono ?_; rintro e w' ⟨rfl, rfl⟩))
  all_goals first
    | (go_ret
       refine ⟨ret_int ?_, (Below.refl _ _).alloc (Nat.le_refl _) _⟩
       have hn := HN.out
       clear HN HR
       unfold chkE chkB ownB
       grind)
    | skip
  go_loop [99] (fun i => ∃ k : Nat, k ≤ n ∧ i = .int .i64 k ∧ (c.start.take k).any (fun m => !inB m 0 c.cap) = false) (fun i => n - (intOf i).toNat)
  case atStart => exact ⟨0, Nat.zero_le _, rfl, by simp⟩
  case round =>
    obtain ⟨k, hk, rfl, hno⟩ := hrel
    have HNO := Lib.hid hno
    clear hno
    by_cases hlt : k < n
    · have hkl : k < c.start.length := by rw [HN.out]; exact hlt
      obtain ⟨b, o, rfl, hbl, hc⟩ := HR.out.at_ (by rw [ints_length]; omega)
      have hcell : w.cell? ⟨b, o + k, none⟩ = some (.int .i64 (c.start.getD k 0)) := hc k _ (ints_at hkl)
      have hsucc := any_take_succ (p := fun m => !inB m 0 c.cap) c.start k hkl
      rw [HNO.out] at hsucc
      have HS := Lib.hid hsucc
      generalize hx : c.start.getD k 0 = x at hcell
      have HX := Lib.hid hx
      clear hc hsucc hx hkl
      by_cases hpx : inB x 0 c.cap = true
      · go_wp2_with (first
          | (go_at_call 51; refine (rin_any _ _ _ _).mono ?_; rintro e w' ⟨rfl, rfl⟩))
        go_round
        case rel => exact ⟨k + 1, by omega, by go_num, by rw [HS.out, HX.out]; simp [hpx]⟩
        case measure => simp [intOf]; omega
      · go_wp2_with (first
          | (go_at_call 51; refine (rin_any _ _ _ _).mono ?_; rintro e w' ⟨rfl, rfl⟩))
        go_ret
        have hany : c.start.any (fun m => !inB m 0 c.cap) = true := by
          rw [List.any_eq_true]
          exact ⟨x, by rw [← HX.out]; simp [List.getD, HN.out, hlt], by simpa using hpx⟩
        refine ⟨ret_int ?_, (Below.refl _ _).alloc (Nat.le_refl _) _⟩
        have hn := HN.out
        clear HN HR HS HX HNO
        unfold chkE chkB ownB
        grind
    · go_wp2
      go_ret
      have hkn : k = c.start.length := by have := HN.out; omega
      have hany : c.start.any (fun m => !inB m 0 c.cap) = false := by
        have := HNO.out
        rwa [hkn, List.take_length] at this
      refine ⟨ret_int ?_, (Below.refl _ _).alloc (Nat.le_refl _) _⟩
      have hn := HN.out
      clear HN HR HNO
      unfold chkE chkB ownB
      grind

end Go.Proofs.YtieglgahfeecbaaGreatDoor

namespace Go.Proofs.YtieglgahfeecbaaGreatDoor
open Go.RowKit Go.Sort

def cfgCells (c : Cfg) : List Value := [.int .i64 c.kind, .int .i64 c.threads, .int .i64 c.chans, .int .i64 c.cap, .int .i64 c.nodes, .int .i64 c.retire, .int .i64 c.patience, .int .i64 c.tags, .int .i64 c.seqs, .int .i64 c.gens, .slice c.sa c.start.length c.sc]

/-- Block b holds the shape c. -/
def BoxC (w : World) (b : Nat) (c : Cfg) : Prop := b < w.heap.size ∧ ∀ i v, (cfgCells c)[i]? = some v → w.cell? ⟨b, i, none⟩ = some v

theorem BoxC.below {w w' : World} {b : Nat} {c : Cfg} (h : BoxC w b c) (hb : Below w.heap.size w w') : BoxC w' b c :=
  ⟨Nat.lt_of_lt_of_le h.1 hb.size, fun i v hi => (hb.cell (p := ⟨b, i, none⟩) h.1).trans (h.2 i v hi)⟩

theorem BoxC.new (w : World) (c : Cfg) : BoxC (w.alloc (.cells #[.int .i64 c.kind, .int .i64 c.threads, .int .i64 c.chans, .int .i64 c.cap, .int .i64 c.nodes, .int .i64 c.retire, .int .i64 c.patience, .int .i64 c.tags, .int .i64 c.seqs, .int .i64 c.gens, .slice c.sa c.start.length c.sc] 24)) w.heap.size c := by
  refine ⟨by simp, fun i v hi => ?_⟩
  simp only [cfgCells] at hi
  rw [World.cell?_alloc_at (hn := rfl)]
  rw [← hi]
  simp

theorem BoxC.all {w : World} {b : Nat} {c : Cfg} (h : BoxC w b c) :
    (w.cell? ⟨b, 0, none⟩ = some (.int .i64 c.kind) ∧ w.cell? ⟨b, 1, none⟩ = some (.int .i64 c.threads) ∧ w.cell? ⟨b, 2, none⟩ = some (.int .i64 c.chans) ∧ w.cell? ⟨b, 3, none⟩ = some (.int .i64 c.cap) ∧
     w.cell? ⟨b, 4, none⟩ = some (.int .i64 c.nodes) ∧ w.cell? ⟨b, 5, none⟩ = some (.int .i64 c.retire) ∧ w.cell? ⟨b, 6, none⟩ = some (.int .i64 c.patience) ∧ w.cell? ⟨b, 7, none⟩ = some (.int .i64 c.tags) ∧
     w.cell? ⟨b, 8, none⟩ = some (.int .i64 c.seqs) ∧ w.cell? ⟨b, 9, none⟩ = some (.int .i64 c.gens) ∧ w.cell? ⟨b, 10, none⟩ = some (.slice c.sa c.start.length c.sc)) :=
  ⟨h.2 0 _ rfl, h.2 1 _ rfl, h.2 2 _ rfl, h.2 3 _ rfl, h.2 4 _ rfl, h.2 5 _ rfl, h.2 6 _ rfl, h.2 7 _ rfl, h.2 8 _ rfl, h.2 9 _ rfl, h.2 10 _ rfl⟩

theorem chk_kind {c : Cfg} (h : chkB c = true) : 1 ≤ c.threads ∧ c.threads ≤ 64 ∧ 1 ≤ c.retire ∧ c.retire ≤ 32 ∧ 0 ≤ c.patience ∧ c.patience ≤ 4 ∧ 0 ≤ c.cap ∧ c.cap ≤ 16 ∧ 0 ≤ c.chans ∧ c.chans ≤ 8 ∧ (c.kind = 3 ∨ (c.kind = 1 ∨ c.kind = 2) ∧ 1 ≤ c.cap) := by
  simp only [chkB, ownB, inB, Bool.and_eq_true, decide_eq_true_eq] at h
  grind

theorem chkE_ok {c : Cfg} (h : chkB c = true) : chkE c = 0 := by simp [chkE, h]
theorem chkE_no {c : Cfg} (h : chkB c = false) : chkE c = 1 := by simp [chkE, h]

theorem Check_ok (c : Cfg) (w : World) (hcf : CfgIn w c) (h : chkB c = true) :
    Calls Tryz.prog 20 #[cfgV c] w fun e w' => e = .returned (.int .i64 0) ∧ Below w.heap.size w w' := by
  rw [← chkE_ok h]; exact Check_any c w hcf
theorem Check_no (c : Cfg) (w : World) (hcf : CfgIn w c) (h : chkB c = false) :
    Calls Tryz.prog 20 #[cfgV c] w fun e w' => e = .returned (.int .i64 1) ∧ Below w.heap.size w w' := by
  rw [← chkE_no h]; exact Check_any c w hcf
theorem rCheck_ok (c : Cfg) (w : World) (hcf : CfgIn w c) (h : chkB c = true) :
    Calls Tryz.prog 22 #[cfgV c] w fun e w' => e = .returned (.int .i64 0) ∧ Below w.heap.size w w' := by
  rw [← chkE_ok h]; exact rCheck_any c w hcf
theorem rCheck_no (c : Cfg) (w : World) (hcf : CfgIn w c) (h : chkB c = false) :
    Calls Tryz.prog 22 #[cfgV c] w fun e w' => e = .returned (.int .i64 1) ∧ Below w.heap.size w w' := by
  rw [← chkE_no h]; exact rCheck_any c w hcf

theorem prod_b (a b m n : Int) (h1 : 0 ≤ a) (h2 : a ≤ m) (h3 : 0 ≤ b) (h4 : b ≤ n) : 0 ≤ a * b ∧ a * b ≤ m * n :=
  ⟨Int.mul_nonneg h1 h3, Int.mul_le_mul h2 h4 h3 (by omega)⟩

def stateS (c : Cfg) : Int := if chkB c = true then (if c.kind == 3 then 1 + c.chans * (1 + c.cap) + c.threads * 4 else 1 + c.cap) else 0
def sizeS (c : Cfg) : Int := if chkB c = true then stateS c + c.threads else 0

set_option maxHeartbeats 1000000 in
theorem State_any (c : Cfg) (w : World) (hcf : CfgIn w c) :
    Calls Tryz.prog 129 #[cfgV c] w fun e w' => e = .returned (.int .i64 (stateS c)) ∧ Below w.heap.size w w' := by
  have HC := Lib.hid hcf
  clear hcf
  unfold cfgV
  cases hk : chkB c
  · have HK := Lib.hid hk
    clear hk
    go_enter Tryz.func129, Tryz.ntmps129
    go_wp2_with (go_at_call 20; refine (Check_no c _ (HC.out.alloc _) HK.out).mono ?_; rintro e w1 ⟨rfl, hb1⟩)
    go_ret
    exact ⟨ret_int (by simp [stateS, HK.out]), ((Below.refl _ _).alloc (Nat.le_refl _) _).trans (hb1.mono (by simp))⟩
  · have HK := Lib.hid hk
    obtain ⟨g1, g2, g3, g4, g5, g6, g7, g8, g9, g10, g11⟩ := chk_kind hk
    clear hk
    have HG := Lib.hid g11
    clear g11
    have hp := prod_b c.chans (1 + c.cap) 8 17 (by omega) (by omega) (by omega) (by omega)
    obtain ⟨p1, p2⟩ := hp
    cases h3 : c.kind == 3
    all_goals
      go_enter Tryz.func129, Tryz.ntmps129
      go_wp2_with (go_at_call 20; refine (Check_ok c _ (HC.out.alloc _) HK.out).mono ?_; rintro e w1 ⟨rfl, hb1⟩; obtain ⟨c0, c1, c2, c3, c4, c5, c6, c7, c8, c9, c10⟩ := ((BoxC.new w c).below hb1).all)
      go_ret
      exact ⟨ret_int (by simp [stateS, HK.out, h3]), ((Below.refl _ _).alloc (Nat.le_refl _) _).trans (hb1.mono (by simp))⟩

theorem state_b {c : Cfg} (h : chkB c = true) : 0 ≤ stateS c ∧ stateS c ≤ 1000 := by
  obtain ⟨g1, g2, g3, g4, g5, g6, g7, g8, g9, g10, g11⟩ := chk_kind h
  have hp := prod_b c.chans (1 + c.cap) 8 17 (by omega) (by omega) (by omega) (by omega)
  simp only [stateS, h, if_true]
  split <;> omega

theorem alloc_size (w : World) (o : Obj) : w.heap.size ≤ (w.alloc o).heap.size := by simp


set_option maxHeartbeats 1000000 in
theorem Size_any (c : Cfg) (w : World) (hcf : CfgIn w c) :
    Calls Tryz.prog 133 #[cfgV c] w fun e w' => e = .returned (.int .i64 (sizeS c)) ∧ Below w.heap.size w w' := by
  have HC := Lib.hid hcf
  clear hcf
  unfold cfgV
  cases hk : chkB c
  · have HK := Lib.hid hk
    clear hk
    go_enter Tryz.func133, Tryz.ntmps133
    go_wp2_with (go_at_call 20; refine (Check_no c _ (HC.out.alloc _) HK.out).mono ?_; rintro e w1 ⟨rfl, hb1⟩)
    go_ret
    exact ⟨ret_int (by simp [sizeS, HK.out]), ((Below.refl _ _).alloc (Nat.le_refl _) _).trans (hb1.mono (by simp))⟩
  · have HK := Lib.hid hk
    obtain ⟨g1, g2, g3, g4, g5, g6, g7, g8, g9, g10, g11⟩ := chk_kind hk
    obtain ⟨s1, s2⟩ := state_b hk
    clear hk
    have HG := Lib.hid g11
    clear g11
    go_enter Tryz.func133, Tryz.ntmps133
    go_wp2_with (first
      | (go_at_call 20; refine (Check_ok c _ (HC.out.alloc _) HK.out).mono ?_; rintro e w1 ⟨rfl, hb1⟩; obtain ⟨c0, c1, c2, c3, c4, c5, c6, c7, c8, c9, c10⟩ := ((BoxC.new w c).below hb1).all; have HB := Lib.hid (((Below.refl _ _).alloc (Nat.le_refl _) _).trans (hb1.mono (alloc_size _ _))); have HCW := Lib.hid (HC.out.below HB.out); clear hb1))
    have k0 := cell_regrown c0
    have k1 := cell_regrown c1
    have k2 := cell_regrown c2
    have k3 := cell_regrown c3
    have k4 := cell_regrown c4
    have k5 := cell_regrown c5
    have k6 := cell_regrown c6
    have k7 := cell_regrown c7
    have k8 := cell_regrown c8
    have k9 := cell_regrown c9
    have k10 := cell_regrown c10
    clear c0 c1 c2 c3 c4 c5 c6 c7 c8 c9 c10
    refine wp_region_quiet_below (by kernel_rfl) (by kernel_rfl) ?_
    repeat (quiet_step ((first | (go_at_call 129; exact Calls.regrown_of (State_any c _ (HCW.out.below (below_regrown _ _ _)))))))
    refine wpQuiet_nil ?_
    intro _ hw'
    obtain ⟨⟨dq, osq⟩, hw''⟩ := hw'
    subst hw''
    go_wp2
    go_ret
    refine ⟨ret_int ?_, HB.out.trans ((below_regrown w1 dq osq).mono HB.out.size)⟩
    simp (disch := omega) only [IntWalk.i64_in]
    simp [sizeS, HK.out]


theorem state_eq (c : Cfg) : 1 + c.chans + c.chans * c.cap + 4 * c.threads = 1 + c.chans * (1 + c.cap) + c.threads * 4 := by
  rw [Int.mul_add, Int.mul_one]; omega

set_option maxHeartbeats 1000000 in
theorem rState_any (c : Cfg) (w : World) (hcf : CfgIn w c) :
    Calls Tryz.prog 80 #[cfgV c] w fun e w' => e = .returned (.int .i64 (stateS c)) ∧ Below w.heap.size w w' := by
  have HC := Lib.hid hcf
  clear hcf
  unfold cfgV
  cases hk : chkB c
  · have HK := Lib.hid hk
    clear hk
    go_enter Tryz.func80, Tryz.ntmps80
    go_wp2_with (go_at_call 22; refine (rCheck_no c _ (HC.out.alloc _) HK.out).mono ?_; rintro e w1 ⟨rfl, hb1⟩)
    go_ret
    exact ⟨ret_int (by simp [stateS, HK.out]), ((Below.refl _ _).alloc (Nat.le_refl _) _).trans (hb1.mono (by simp))⟩
  · have HK := Lib.hid hk
    obtain ⟨g1, g2, g3, g4, g5, g6, g7, g8, g9, g10, g11⟩ := chk_kind hk
    obtain ⟨p1, p2⟩ := prod_b c.chans c.cap 8 16 (by omega) (by omega) (by omega) (by omega)
    clear hk
    have HG := Lib.hid g11
    clear g11
    cases h3 : c.kind == 3
    all_goals
      go_enter Tryz.func80, Tryz.ntmps80
      go_wp2_with (first
        | (go_at_call 22; refine (rCheck_ok c _ (HC.out.alloc _) HK.out).mono ?_; rintro e w1 ⟨rfl, hb1⟩; obtain ⟨c0, c1, c2, c3, c4, c5, c6, c7, c8, c9, c10⟩ := ((BoxC.new w c).below hb1).all; have HB := Lib.hid (((Below.refl _ _).alloc (Nat.le_refl _) _).trans (hb1.mono (alloc_size _ _))); have HCW := Lib.hid (HC.out.below HB.out); clear hb1))
      go_ret
      refine ⟨ret_int ?_, HB.out⟩
      skip
      first | (simp [stateS, HK.out, h3]; done) | (simp [stateS, HK.out, h3]; rw [Int.mul_add, Int.mul_one]; omega) | (simp [stateS, HK.out, h3]; omega)

set_option maxHeartbeats 1000000 in
theorem rSize_any (c : Cfg) (w : World) (hcf : CfgIn w c) :
    Calls Tryz.prog 47 #[cfgV c] w fun e w' => e = .returned (.int .i64 (sizeS c)) ∧ Below w.heap.size w w' := by
  have HC := Lib.hid hcf
  clear hcf
  unfold cfgV
  cases hk : chkB c
  · have HK := Lib.hid hk
    clear hk
    go_enter Tryz.func47, Tryz.ntmps47
    go_wp2_with (go_at_call 22; refine (rCheck_no c _ (HC.out.alloc _) HK.out).mono ?_; rintro e w1 ⟨rfl, hb1⟩)
    go_ret
    exact ⟨ret_int (by simp [sizeS, HK.out]), ((Below.refl _ _).alloc (Nat.le_refl _) _).trans (hb1.mono (by simp))⟩
  · have HK := Lib.hid hk
    obtain ⟨g1, g2, g3, g4, g5, g6, g7, g8, g9, g10, g11⟩ := chk_kind hk
    obtain ⟨s1, s2⟩ := state_b hk
    clear hk
    have HG := Lib.hid g11
    clear g11
    go_enter Tryz.func47, Tryz.ntmps47
    go_wp2_with (first
      | (go_at_call 22; refine (rCheck_ok c _ (HC.out.alloc _) HK.out).mono ?_; rintro e w1 ⟨rfl, hb1⟩; obtain ⟨c0, c1, c2, c3, c4, c5, c6, c7, c8, c9, c10⟩ := ((BoxC.new w c).below hb1).all; have HB := Lib.hid (((Below.refl _ _).alloc (Nat.le_refl _) _).trans (hb1.mono (alloc_size _ _))); have HCW := Lib.hid (HC.out.below HB.out); clear hb1))
    have k0 := cell_regrown c0
    have k1 := cell_regrown c1
    have k2 := cell_regrown c2
    have k3 := cell_regrown c3
    have k4 := cell_regrown c4
    have k5 := cell_regrown c5
    have k6 := cell_regrown c6
    have k7 := cell_regrown c7
    have k8 := cell_regrown c8
    have k9 := cell_regrown c9
    have k10 := cell_regrown c10
    clear c0 c1 c2 c3 c4 c5 c6 c7 c8 c9 c10
    refine wp_region_quiet_below (by kernel_rfl) (by kernel_rfl) ?_
    repeat (quiet_step ((first | (go_at_call 80; exact Calls.regrown_of (rState_any c _ (HCW.out.below (below_regrown _ _ _)))))))
    refine wpQuiet_nil ?_
    intro _ hw'
    obtain ⟨⟨dq, osq⟩, hw''⟩ := hw'
    subst hw''
    go_wp2
    go_ret
    refine ⟨ret_int ?_, HB.out.trans ((below_regrown w1 dq osq).mono HB.out.size)⟩
    simp (disch := omega) only [IntWalk.i64_in]
    simp [sizeS, HK.out]


theorem size_b {c : Cfg} (h : chkB c = true) : 0 ≤ sizeS c ∧ sizeS c ≤ 1100 := by
  obtain ⟨g1, g2, _⟩ := chk_kind h
  have := state_b h
  simp only [sizeS, h, if_true]
  omega
theorem chk_nodes {c : Cfg} (h : chkB c = true) : 1 ≤ c.nodes ∧ c.nodes ≤ 64 := by
  simp only [chkB, inB, Bool.and_eq_true, decide_eq_true_eq] at h
  exact h.1.1.1.1.1.2

end Go.Proofs.YtieglgahfeecbaaGreatDoor
