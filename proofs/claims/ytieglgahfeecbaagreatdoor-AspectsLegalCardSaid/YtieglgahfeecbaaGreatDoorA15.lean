/- A queue of cells by tickets, in the abstract: its steps, and what holds at each moment. -/
import Derived.Test.YtieglgahfeecbaaGreatDoorA14
namespace Go.Proofs.YtieglgahfeecbaaGreatDoor

/-- A moment: how many notes there are, how many tickets were drawn, how many calls there are; the cells; where each thread stands, with which ticket, in which call; the calls; and, of each ticket, whose call drew it, and behind how many notes. -/
structure TS where
  (n hd tl m : Nat)
  cell : Nat → Int
  pc : Nat → Int
  at_ : Nat → Nat
  cur : Nat → Nat
  C : Nat → Kall
  (pt tt pm tm : Nat → Nat)

def upd {α : Type} (f : Nat → α) (i : Nat) (x : α) : Nat → α := fun j => if j = i then x else f j
theorem upd_at {α : Type} (f : Nat → α) (i : Nat) (x : α) (j : Nat) : upd f i x j = if j = i then x else f j := rfl

structure TInv (sz : Nat) (s : TS) : Prop where
  cell0 : ∀ k, 0 ≤ s.cell k
  cellz : ∀ k, sz ≤ k → s.cell k = 0
  cb : ∀ c, c < s.m → 0 ≤ (s.C c).beg ∧ (s.C c).beg < s.n
  cf : ∀ c, c < s.m → (s.C c).opn = false → (s.C c).beg < (s.C c).fin ∧ (s.C c).fin < s.n
  own : ∀ t, s.pc t ≠ 0 → s.cur t < s.m ∧ (s.C (s.cur t)).opn = true
  inj : ∀ t t', s.pc t ≠ 0 → s.pc t' ≠ 0 → s.cur t = s.cur t' → t = t'
  isput : ∀ t, s.pc t = 1 ∨ s.pc t = 2 → (s.C (s.cur t)).put = true ∧ 0 ≤ (s.C (s.cur t)).value
  istake : ∀ t, s.pc t = 3 ∨ s.pc t = 4 ∨ s.pc t = 5 ∨ s.pc t = 6 → (s.C (s.cur t)).put = false
  pdraw : ∀ k, k < s.tl → s.pt k < s.m ∧ (s.C (s.pt k)).put = true ∧ (s.C (s.pt k)).beg < s.pm k ∧ s.pm k ≤ s.n
  pfin : ∀ k, k < s.tl → (s.C (s.pt k)).opn = false → (s.pm k : Int) ≤ (s.C (s.pt k)).fin
  tdraw : ∀ k, k < s.hd → s.tt k < s.m ∧ (s.C (s.tt k)).put = false ∧ (s.C (s.tt k)).beg < s.tm k ∧ s.tm k ≤ s.n
  tfin : ∀ k, k < s.hd → (s.C (s.tt k)).opn = false → (s.tm k : Int) ≤ (s.C (s.tt k)).fin
  pmono : ∀ k k', k ≤ k' → k' < s.tl → s.pm k ≤ s.pm k'
  tmono : ∀ k k', k ≤ k' → k' < s.hd → s.tm k ≤ s.tm k'
  val : ∀ k, 2 ≤ s.cell k → k < s.tl ∧ s.cell k = (s.C (s.pt k)).value + 2 ∧ (s.C (s.pt k)).opn = false ∧ (s.C (s.pt k)).code = 0
  vinj : ∀ k k', 2 ≤ s.cell k → 2 ≤ s.cell k' → s.pt k = s.pt k' → k = k'
  pdone : ∀ c, c < s.m → (s.C c).put = true → (s.C c).opn = false → (s.C c).code = 0 → ∃ k, 2 ≤ s.cell k ∧ s.pt k = c
  hold2 : ∀ t, s.pc t = 2 → s.at_ t < s.tl ∧ s.at_ t < sz ∧ s.pt (s.at_ t) = s.cur t
  hold4 : ∀ t, s.pc t = 4 ∨ s.pc t = 5 ∨ s.pc t = 6 → s.at_ t < s.hd ∧ s.at_ t < sz ∧ s.tt (s.at_ t) = s.cur t
  at4 : ∀ t, s.pc t = 4 → s.cell (s.at_ t) ≠ 1
  at5 : ∀ t, s.pc t = 5 → 2 ≤ s.cell (s.at_ t)
  at6 : ∀ t, s.pc t = 6 → s.cell (s.at_ t) = 1
  nev : ∀ k, s.cell k = 1 → k < s.hd
  tick : ∀ k, k < s.hd → s.cell k = 1 ∨ sz ≤ k ∨ (∃ t, (s.pc t = 4 ∨ s.pc t = 5) ∧ s.at_ t = k) ∨ ((s.C (s.tt k)).opn = false ∧ (s.C (s.tt k)).code = 0 ∧ s.cell k = (s.C (s.tt k)).value + 2 ∧ 2 ≤ s.cell k)
  tdone : ∀ c, c < s.m → (s.C c).put = false → (s.C c).opn = false → (s.C c).code = 0 → ∃ k, k < s.hd ∧ s.tt k = c ∧ 2 ≤ s.cell k ∧ s.cell k = (s.C c).value + 2 ∧ (s.C (s.pt k)).beg < (s.C c).fin
  tblock : ∀ c, c < s.m → (s.C c).put = false → (s.C c).opn = false → (s.C c).code = 10 → ∃ k, k < s.hd ∧ s.tt k = c ∧ s.cell k = 1 ∧ ∀ j, j < s.tl → (s.pm j : Int) ≤ (s.C c).beg → j ≤ k

/-- A call begins. -/
def TS.beg (s : TS) (t : Nat) (put : Bool) (v : Int) : TS :=
  { s with n := s.n + 1, m := s.m + 1, pc := upd s.pc t (if put then 1 else 3), cur := upd s.cur t s.m, C := upd s.C s.m ⟨s.n, 0, true, put, v, 0⟩ }

/-- A call ends. -/
def TS.fin (s : TS) (t : Nat) (code v : Int) : TS :=
  { s with n := s.n + 1, pc := upd s.pc t 0, C := upd s.C (s.cur t) ⟨(s.C (s.cur t)).beg, s.n, false, (s.C (s.cur t)).put, if (s.C (s.cur t)).put then (s.C (s.cur t)).value else v, code⟩ }

/-- A ticket is drawn by who puts, by who takes. -/
def TS.drawP (s : TS) (t : Nat) : TS := { s with tl := s.tl + 1, pt := upd s.pt s.tl (s.cur t), pm := upd s.pm s.tl s.n }
def TS.drawT (s : TS) (t : Nat) : TS := { s with hd := s.hd + 1, tt := upd s.tt s.hd (s.cur t), tm := upd s.tm s.hd s.n }
def TS.to (s : TS) (t : Nat) (p : Int) : TS := { s with pc := upd s.pc t p }
def TS.with_ (s : TS) (t : Nat) (p : Int) (k : Nat) : TS := { s with pc := upd s.pc t p, at_ := upd s.at_ t k }
def TS.put (s : TS) (k : Nat) (x : Int) : TS := { s with cell := upd s.cell k x }

variable {sz : Nat} {s : TS} {t : Nat}

set_option maxHeartbeats 4000000 in
theorem TInv.beg (h : TInv sz s) (h0 : s.pc t = 0) (put : Bool) (v : Int) (hv : put = true → 0 ≤ v) : TInv sz (s.beg t put v) := by
  obtain ⟨cell0, cellz, cb, cf, own, inj, isput, istake, pdraw, pfin, tdraw, tfin, pmono, tmono, val, vinj, pdone, hold2, hold4, at4, at5, at6, nev, tick, tdone, tblock⟩ := h
  constructor
  case cell0 =>
    clear cellz cb cf own inj isput istake pdraw pfin tdraw tfin pmono tmono val vinj pdone hold2 hold4 at4 at5 at6 nev tick tdone tblock
    simp only [TS.beg]
    try simp only [upd_at]
    grind
  case cellz =>
    clear cell0 cb cf own inj isput istake pdraw pfin tdraw tfin pmono tmono val vinj pdone hold2 hold4 at4 at5 at6 nev tick tdone tblock
    simp only [TS.beg]
    try simp only [upd_at]
    grind
  case cb =>
    clear cell0 cellz cf own inj isput istake pdraw pfin tdraw tfin pmono tmono val vinj pdone hold2 hold4 at4 at5 at6 nev tick tdone tblock
    simp only [TS.beg]
    try simp only [upd_at]
    grind
  case cf =>
    clear cell0 cellz cb own inj isput istake pdraw pfin tdraw tfin pmono tmono val vinj pdone hold2 hold4 at4 at5 at6 nev tick tdone tblock
    simp only [TS.beg]
    try simp only [upd_at]
    grind
  case own =>
    clear cell0 cellz cb cf inj isput istake pdraw pfin tdraw tfin pmono tmono val vinj pdone hold2 hold4 at4 at5 at6 nev tick tdone tblock
    simp only [TS.beg]
    try simp only [upd_at]
    grind
  case inj =>
    clear cell0 cellz cb cf isput istake pdraw pfin tdraw tfin pmono tmono val vinj pdone hold2 hold4 at4 at5 at6 nev tick tdone tblock
    simp only [TS.beg]
    try simp only [upd_at]
    grind
  case isput =>
    clear cell0 cellz cb cf inj istake pdraw pfin tdraw tfin pmono tmono val vinj pdone hold2 hold4 at4 at5 at6 nev tick tdone tblock
    simp only [TS.beg]
    try simp only [upd_at]
    grind
  case istake =>
    clear cell0 cellz cb cf inj isput pdraw pfin tdraw tfin pmono tmono val vinj pdone hold2 hold4 at4 at5 at6 nev tick tdone tblock
    simp only [TS.beg]
    try simp only [upd_at]
    grind
  case pdraw =>
    clear cell0 cellz cb cf own inj isput istake pfin tdraw tfin pmono tmono val vinj pdone hold2 hold4 at4 at5 at6 nev tick tdone tblock
    simp only [TS.beg]
    try simp only [upd_at]
    grind
  case pfin =>
    clear cell0 cellz cb cf own inj isput istake tdraw tfin pmono tmono val vinj pdone hold2 hold4 at4 at5 at6 nev tick tdone tblock
    simp only [TS.beg]
    try simp only [upd_at]
    grind
  case tdraw =>
    clear cell0 cellz cb cf own inj isput istake pdraw pfin tfin pmono tmono val vinj pdone hold2 hold4 at4 at5 at6 nev tick tdone tblock
    simp only [TS.beg]
    try simp only [upd_at]
    grind
  case tfin =>
    clear cell0 cellz cb cf own inj isput istake pdraw pfin pmono tmono val vinj pdone hold2 hold4 at4 at5 at6 nev tick tdone tblock
    simp only [TS.beg]
    try simp only [upd_at]
    grind
  case pmono =>
    clear cell0 cellz cb cf own inj isput istake pdraw pfin tdraw tfin tmono val vinj pdone hold2 hold4 at4 at5 at6 nev tick tdone tblock
    simp only [TS.beg]
    try simp only [upd_at]
    grind
  case tmono =>
    clear cell0 cellz cb cf own inj isput istake pdraw pfin tdraw tfin pmono val vinj pdone hold2 hold4 at4 at5 at6 nev tick tdone tblock
    simp only [TS.beg]
    try simp only [upd_at]
    grind
  case val =>
    clear cell0 cellz cb cf own inj isput istake pfin tdraw tfin pmono tmono vinj pdone hold2 hold4 at4 at5 at6 nev tick tdone tblock
    simp only [TS.beg]
    try simp only [upd_at]
    grind
  case vinj =>
    clear cell0 cellz cb cf own inj isput istake pdraw pfin tdraw tfin pmono tmono val pdone hold2 hold4 at4 at5 at6 nev tick tdone tblock
    simp only [TS.beg]
    try simp only [upd_at]
    grind
  case pdone =>
    clear cell0 cellz cb cf own inj isput istake pdraw pfin tdraw tfin pmono tmono val vinj hold2 hold4 at4 at5 at6 nev tick tdone tblock
    simp only [TS.beg]
    try simp only [upd_at]
    grind
  case hold2 =>
    clear cell0 cellz cb cf own inj isput istake pdraw pfin tdraw tfin pmono tmono val vinj pdone hold4 at4 at5 at6 nev tick tdone tblock
    simp only [TS.beg]
    try simp only [upd_at]
    grind
  case hold4 =>
    clear cell0 cellz cb cf own inj isput istake pdraw pfin tdraw tfin pmono tmono val vinj pdone hold2 at4 at5 at6 nev tick tdone tblock
    simp only [TS.beg]
    try simp only [upd_at]
    grind
  case at4 =>
    clear cell0 cellz cb cf own inj isput istake pdraw pfin tdraw tfin pmono tmono val vinj pdone hold2 hold4 at5 at6 nev tick tdone tblock
    simp only [TS.beg]
    try simp only [upd_at]
    grind
  case at5 =>
    clear cell0 cellz cb cf own inj isput istake pdraw pfin tdraw tfin pmono tmono val vinj pdone hold2 hold4 at4 at6 nev tick tdone tblock
    simp only [TS.beg]
    try simp only [upd_at]
    grind
  case at6 =>
    clear cell0 cellz cb cf own inj isput istake pdraw pfin tdraw tfin pmono tmono val vinj pdone hold2 hold4 at4 at5 nev tick tdone tblock
    simp only [TS.beg]
    try simp only [upd_at]
    grind
  case nev =>
    clear cell0 cellz cb cf own inj isput istake pdraw pfin tdraw tfin pmono tmono val vinj pdone hold2 hold4 at4 at5 at6 tick tdone tblock
    simp only [TS.beg]
    try simp only [upd_at]
    grind
  case tick =>
    clear cell0 cellz cb cf own inj isput istake pdraw pfin tfin pmono tmono val vinj pdone hold2 hold4 at4 at5 at6 nev tdone tblock
    simp only [TS.beg]
    try simp only [upd_at]
    grind
  case tdone =>
    clear cell0 cellz cb cf own inj isput istake pfin tfin pmono tmono vinj pdone hold2 hold4 at4 at5 at6 nev tick tblock
    simp only [TS.beg]
    try simp only [upd_at]
    grind
  case tblock =>
    clear cell0 cellz cb cf own inj isput istake pdraw pfin tdraw tfin pmono tmono val vinj pdone hold2 hold4 at4 at5 at6 nev tick tdone
    simp only [TS.beg]
    try simp only [upd_at]
    grind

set_option maxHeartbeats 4000000 in
theorem TInv.drawP (h : TInv sz s) (h1 : s.pc t = 1) : TInv sz (s.drawP t) := by
  obtain ⟨cell0, cellz, cb, cf, own, inj, isput, istake, pdraw, pfin, tdraw, tfin, pmono, tmono, val, vinj, pdone, hold2, hold4, at4, at5, at6, nev, tick, tdone, tblock⟩ := h
  constructor
  case cell0 =>
    clear cellz cb cf own inj isput istake pdraw pfin tdraw tfin pmono tmono val vinj pdone hold2 hold4 at4 at5 at6 nev tick tdone tblock
    simp only [TS.drawP]
    try simp only [upd_at]
    grind
  case cellz =>
    clear cell0 cb cf own inj isput istake pdraw pfin tdraw tfin pmono tmono val vinj pdone hold2 hold4 at4 at5 at6 nev tick tdone tblock
    simp only [TS.drawP]
    try simp only [upd_at]
    grind
  case cb =>
    clear cell0 cellz cf own inj isput istake pdraw pfin tdraw tfin pmono tmono val vinj pdone hold2 hold4 at4 at5 at6 nev tick tdone tblock
    simp only [TS.drawP]
    try simp only [upd_at]
    grind
  case cf =>
    clear cell0 cellz cb own inj isput istake pdraw pfin tdraw tfin pmono tmono val vinj pdone hold2 hold4 at4 at5 at6 nev tick tdone tblock
    simp only [TS.drawP]
    try simp only [upd_at]
    grind
  case own =>
    clear cell0 cellz cb cf inj isput istake pdraw pfin tdraw tfin pmono tmono val vinj pdone hold2 hold4 at4 at5 at6 nev tick tdone tblock
    simp only [TS.drawP]
    try simp only [upd_at]
    grind
  case inj =>
    clear cell0 cellz cb cf own isput istake pdraw pfin tdraw tfin pmono tmono val vinj pdone hold2 hold4 at4 at5 at6 nev tick tdone tblock
    simp only [TS.drawP]
    try simp only [upd_at]
    grind
  case isput =>
    clear cell0 cellz cb cf own inj istake pdraw pfin tdraw tfin pmono tmono val vinj pdone hold2 hold4 at4 at5 at6 nev tick tdone tblock
    simp only [TS.drawP]
    try simp only [upd_at]
    grind
  case istake =>
    clear cell0 cellz cb cf own inj isput pdraw pfin tdraw tfin pmono tmono val vinj pdone hold2 hold4 at4 at5 at6 nev tick tdone tblock
    simp only [TS.drawP]
    try simp only [upd_at]
    grind
  case pdraw =>
    clear cell0 cellz cf inj istake pfin tdraw tfin pmono tmono val vinj pdone hold2 hold4 at4 at5 at6 nev tick tdone tblock
    simp only [TS.drawP]
    try simp only [upd_at]
    grind
  case pfin =>
    clear cell0 cellz cb cf inj isput istake pdraw tdraw tfin pmono tmono val vinj pdone hold2 hold4 at4 at5 at6 nev tick tdone tblock
    simp only [TS.drawP]
    try simp only [upd_at]
    grind
  case tdraw =>
    clear cell0 cellz cb cf own inj isput istake pdraw pfin tfin pmono tmono val vinj pdone hold2 hold4 at4 at5 at6 nev tick tdone tblock
    simp only [TS.drawP]
    try simp only [upd_at]
    grind
  case tfin =>
    clear cell0 cellz cb cf own inj isput istake pdraw pfin tdraw pmono tmono val vinj pdone hold2 hold4 at4 at5 at6 nev tick tdone tblock
    simp only [TS.drawP]
    try simp only [upd_at]
    grind
  case pmono =>
    clear cell0 cellz cb cf own inj isput istake pfin tdraw tfin tmono val vinj pdone hold2 hold4 at4 at5 at6 nev tick tdone tblock
    simp only [TS.drawP]
    try simp only [upd_at]
    grind
  case tmono =>
    clear cell0 cellz cb cf own inj isput istake pdraw pfin tdraw tfin pmono val vinj pdone hold2 hold4 at4 at5 at6 nev tick tdone tblock
    simp only [TS.drawP]
    try simp only [upd_at]
    grind
  case val =>
    clear cell0 cellz cb cf own inj isput istake pdraw pfin tdraw tfin pmono tmono vinj pdone hold2 hold4 at4 at5 at6 nev tick tdone tblock
    simp only [TS.drawP]
    try simp only [upd_at]
    grind
  case vinj =>
    clear cell0 cellz cb cf own inj isput istake pdraw pfin tdraw tfin pmono tmono pdone hold2 hold4 at4 at5 at6 nev tick tdone tblock
    simp only [TS.drawP]
    try simp only [upd_at]
    grind
  case pdone =>
    clear cell0 cellz cb cf own inj isput istake pdraw pfin tdraw tfin pmono tmono vinj hold2 hold4 at4 at5 at6 nev tick tdone tblock
    simp only [TS.drawP]
    try simp only [upd_at]
    grind
  case hold2 =>
    clear cell0 cellz cb cf own inj isput istake pdraw pfin tdraw tfin pmono tmono val vinj pdone hold4 at4 at5 at6 nev tick tdone tblock
    simp only [TS.drawP]
    try simp only [upd_at]
    grind
  case hold4 =>
    clear cell0 cellz cb cf own inj isput istake pdraw pfin tdraw tfin pmono tmono val vinj pdone hold2 at4 at5 at6 nev tick tdone tblock
    simp only [TS.drawP]
    try simp only [upd_at]
    grind
  case at4 =>
    clear cell0 cellz cb cf own inj isput istake pdraw pfin tdraw tfin pmono tmono val vinj pdone hold2 hold4 at5 at6 nev tick tdone tblock
    simp only [TS.drawP]
    try simp only [upd_at]
    grind
  case at5 =>
    clear cell0 cellz cb cf own inj isput istake pdraw pfin tdraw tfin pmono tmono val vinj pdone hold2 hold4 at4 at6 nev tick tdone tblock
    simp only [TS.drawP]
    try simp only [upd_at]
    grind
  case at6 =>
    clear cell0 cellz cb cf own inj isput istake pdraw pfin tdraw tfin pmono tmono val vinj pdone hold2 hold4 at4 at5 nev tick tdone tblock
    simp only [TS.drawP]
    try simp only [upd_at]
    grind
  case nev =>
    clear cell0 cellz cb cf own inj isput istake pdraw pfin tdraw tfin pmono tmono val vinj pdone hold2 hold4 at4 at5 at6 tick tdone tblock
    simp only [TS.drawP]
    try simp only [upd_at]
    grind
  case tick =>
    clear cell0 cellz cb cf own inj isput istake pdraw pfin tdraw tfin pmono tmono val vinj pdone hold2 hold4 at4 at5 at6 nev tdone tblock
    simp only [TS.drawP]
    try simp only [upd_at]
    grind
  case tdone =>
    clear cell0 cellz cb cf own inj isput istake pdraw pfin tdraw tfin pmono tmono vinj pdone hold2 hold4 at4 at5 at6 nev tick tblock
    simp only [TS.drawP]
    try simp only [upd_at]
    grind
  case tblock =>
    clear cell0 cellz cf own inj isput istake pdraw pfin tdraw tfin pmono tmono val vinj pdone hold2 hold4 at4 at5 at6 nev tick tdone
    simp only [TS.drawP]
    try simp only [upd_at]
    grind

set_option maxHeartbeats 4000000 in
theorem TInv.holdP (h : TInv sz s) (h1 : s.pc t = 1) (k : Nat) (hk : k < s.tl) (hz : k < sz) (hp : s.pt k = s.cur t) : TInv sz (s.with_ t 2 k) := by
  obtain ⟨cell0, cellz, cb, cf, own, inj, isput, istake, pdraw, pfin, tdraw, tfin, pmono, tmono, val, vinj, pdone, hold2, hold4, at4, at5, at6, nev, tick, tdone, tblock⟩ := h
  constructor
  case cell0 =>
    clear cellz cb cf own inj isput istake pdraw pfin tdraw tfin pmono tmono val vinj pdone hold2 hold4 at4 at5 at6 nev tick tdone tblock
    simp only [TS.with_]
    try simp only [upd_at]
    grind
  case cellz =>
    clear cell0 cb cf own inj isput istake pdraw pfin tdraw tfin pmono tmono val vinj pdone hold2 hold4 at4 at5 at6 nev tick tdone tblock
    simp only [TS.with_]
    try simp only [upd_at]
    grind
  case cb =>
    clear cell0 cellz cf own inj isput istake pdraw pfin tdraw tfin pmono tmono val vinj pdone hold2 hold4 at4 at5 at6 nev tick tdone tblock
    simp only [TS.with_]
    try simp only [upd_at]
    grind
  case cf =>
    clear cell0 cellz cb own inj isput istake pdraw pfin tdraw tfin pmono tmono val vinj pdone hold2 hold4 at4 at5 at6 nev tick tdone tblock
    simp only [TS.with_]
    try simp only [upd_at]
    grind
  case own =>
    clear cell0 cellz cb cf inj isput istake pdraw pfin tdraw tfin pmono tmono val vinj pdone hold2 hold4 at4 at5 at6 nev tick tdone tblock
    simp only [TS.with_]
    try simp only [upd_at]
    grind
  case inj =>
    clear cell0 cellz cb cf own isput istake pdraw pfin tdraw tfin pmono tmono val vinj pdone hold2 hold4 at4 at5 at6 nev tick tdone tblock
    simp only [TS.with_]
    try simp only [upd_at]
    grind
  case isput =>
    clear cell0 cellz cb cf own inj istake pdraw pfin tdraw tfin pmono tmono val vinj pdone hold2 hold4 at4 at5 at6 nev tick tdone tblock
    simp only [TS.with_]
    try simp only [upd_at]
    grind
  case istake =>
    clear cell0 cellz cb cf own inj isput pdraw pfin tdraw tfin pmono tmono val vinj pdone hold2 hold4 at4 at5 at6 nev tick tdone tblock
    simp only [TS.with_]
    try simp only [upd_at]
    grind
  case pdraw =>
    clear cell0 cellz cb cf own inj isput istake pfin tdraw tfin pmono tmono val vinj pdone hold2 hold4 at4 at5 at6 nev tick tdone tblock
    simp only [TS.with_]
    try simp only [upd_at]
    grind
  case pfin =>
    clear cell0 cellz cb cf own inj isput istake pdraw tdraw tfin pmono tmono val vinj pdone hold2 hold4 at4 at5 at6 nev tick tdone tblock
    simp only [TS.with_]
    try simp only [upd_at]
    grind
  case tdraw =>
    clear cell0 cellz cb cf own inj isput istake pdraw pfin tfin pmono tmono val vinj pdone hold2 hold4 at4 at5 at6 nev tick tdone tblock
    simp only [TS.with_]
    try simp only [upd_at]
    grind
  case tfin =>
    clear cell0 cellz cb cf own inj isput istake pdraw pfin tdraw pmono tmono val vinj pdone hold2 hold4 at4 at5 at6 nev tick tdone tblock
    simp only [TS.with_]
    try simp only [upd_at]
    grind
  case pmono =>
    clear cell0 cellz cb cf own inj isput istake pdraw pfin tdraw tfin tmono val vinj pdone hold2 hold4 at4 at5 at6 nev tick tdone tblock
    simp only [TS.with_]
    try simp only [upd_at]
    grind
  case tmono =>
    clear cell0 cellz cb cf own inj isput istake pdraw pfin tdraw tfin pmono val vinj pdone hold2 hold4 at4 at5 at6 nev tick tdone tblock
    simp only [TS.with_]
    try simp only [upd_at]
    grind
  case val =>
    clear cell0 cellz cb cf own inj isput istake pdraw pfin tdraw tfin pmono tmono vinj pdone hold2 hold4 at4 at5 at6 nev tick tdone tblock
    simp only [TS.with_]
    try simp only [upd_at]
    grind
  case vinj =>
    clear cell0 cellz cb cf own inj isput istake pdraw pfin tdraw tfin pmono tmono val pdone hold2 hold4 at4 at5 at6 nev tick tdone tblock
    simp only [TS.with_]
    try simp only [upd_at]
    grind
  case pdone =>
    clear cell0 cellz cb cf own inj isput istake pdraw pfin tdraw tfin pmono tmono val vinj hold2 hold4 at4 at5 at6 nev tick tdone tblock
    simp only [TS.with_]
    try simp only [upd_at]
    grind
  case hold2 =>
    clear cell0 cellz cb cf own inj isput istake pdraw pfin tdraw tfin pmono tmono val vinj pdone hold4 at4 at5 at6 nev tick tdone tblock
    simp only [TS.with_]
    try simp only [upd_at]
    grind
  case hold4 =>
    clear cell0 cellz cb cf own inj isput istake pdraw pfin tdraw tfin pmono tmono val vinj pdone hold2 at4 at5 at6 nev tick tdone tblock
    simp only [TS.with_]
    try simp only [upd_at]
    grind
  case at4 =>
    clear cell0 cellz cb cf own inj isput istake pdraw pfin tdraw tfin pmono tmono val vinj pdone hold2 hold4 at5 at6 nev tick tdone tblock
    simp only [TS.with_]
    try simp only [upd_at]
    grind
  case at5 =>
    clear cell0 cellz cb cf own inj isput istake pdraw pfin tdraw tfin pmono tmono val vinj pdone hold2 hold4 at4 at6 nev tick tdone tblock
    simp only [TS.with_]
    try simp only [upd_at]
    grind
  case at6 =>
    clear cell0 cellz cb cf own inj isput istake pdraw pfin tdraw tfin pmono tmono val vinj pdone hold2 hold4 at4 at5 nev tick tdone tblock
    simp only [TS.with_]
    try simp only [upd_at]
    grind
  case nev =>
    clear cell0 cellz cb cf own inj isput istake pdraw pfin tdraw tfin pmono tmono val vinj pdone hold2 hold4 at4 at5 at6 tick tdone tblock
    simp only [TS.with_]
    try simp only [upd_at]
    grind
  case tick =>
    clear cell0 cellz cb cf own inj isput istake pdraw pfin tdraw tfin pmono tmono val vinj pdone hold2 hold4 at4 at5 at6 nev tdone tblock
    simp only [TS.with_]
    try simp only [upd_at]
    grind
  case tdone =>
    clear cell0 cellz cb cf own inj isput istake pdraw pfin tdraw tfin pmono tmono val vinj pdone hold2 hold4 at4 at5 at6 nev tick tblock
    simp only [TS.with_]
    try simp only [upd_at]
    grind
  case tblock =>
    clear cell0 cellz cb cf own inj isput istake pdraw pfin tdraw tfin pmono tmono val vinj pdone hold2 hold4 at4 at5 at6 nev tick tdone
    simp only [TS.with_]
    try simp only [upd_at]
    grind

set_option maxHeartbeats 4000000 in
theorem TInv.drawOut (h : TInv sz s) (h3 : s.pc t = 3) (hz : sz ≤ s.hd) : TInv sz (s.drawT t) := by
  obtain ⟨cell0, cellz, cb, cf, own, inj, isput, istake, pdraw, pfin, tdraw, tfin, pmono, tmono, val, vinj, pdone, hold2, hold4, at4, at5, at6, nev, tick, tdone, tblock⟩ := h
  constructor
  case cell0 =>
    clear cellz cb cf own inj isput istake pdraw pfin tdraw tfin pmono tmono val vinj pdone hold2 hold4 at4 at5 at6 nev tick tdone tblock
    simp only [TS.drawT]
    try simp only [upd_at]
    grind
  case cellz =>
    clear cell0 cb cf own inj isput istake pdraw pfin tdraw tfin pmono tmono val vinj pdone hold2 hold4 at4 at5 at6 nev tick tdone tblock
    simp only [TS.drawT]
    try simp only [upd_at]
    grind
  case cb =>
    clear cell0 cellz cf own inj isput istake pdraw pfin tdraw tfin pmono tmono val vinj pdone hold2 hold4 at4 at5 at6 nev tick tdone tblock
    simp only [TS.drawT]
    try simp only [upd_at]
    grind
  case cf =>
    clear cell0 cellz cb own inj isput istake pdraw pfin tdraw tfin pmono tmono val vinj pdone hold2 hold4 at4 at5 at6 nev tick tdone tblock
    simp only [TS.drawT]
    try simp only [upd_at]
    grind
  case own =>
    clear cell0 cellz cb cf inj isput istake pdraw pfin tdraw tfin pmono tmono val vinj pdone hold2 hold4 at4 at5 at6 nev tick tdone tblock
    simp only [TS.drawT]
    try simp only [upd_at]
    grind
  case inj =>
    clear cell0 cellz cb cf own isput istake pdraw pfin tdraw tfin pmono tmono val vinj pdone hold2 hold4 at4 at5 at6 nev tick tdone tblock
    simp only [TS.drawT]
    try simp only [upd_at]
    grind
  case isput =>
    clear cell0 cellz cb cf own inj istake pdraw pfin tdraw tfin pmono tmono val vinj pdone hold2 hold4 at4 at5 at6 nev tick tdone tblock
    simp only [TS.drawT]
    try simp only [upd_at]
    grind
  case istake =>
    clear cell0 cellz cb cf own inj isput pdraw pfin tdraw tfin pmono tmono val vinj pdone hold2 hold4 at4 at5 at6 nev tick tdone tblock
    simp only [TS.drawT]
    try simp only [upd_at]
    grind
  case pdraw =>
    clear cell0 cellz cb cf own inj isput istake pfin tdraw tfin pmono tmono val vinj pdone hold2 hold4 at4 at5 at6 nev tick tdone tblock
    simp only [TS.drawT]
    try simp only [upd_at]
    grind
  case pfin =>
    clear cell0 cellz cb cf own inj isput istake pdraw tdraw tfin pmono tmono val vinj pdone hold2 hold4 at4 at5 at6 nev tick tdone tblock
    simp only [TS.drawT]
    try simp only [upd_at]
    grind
  case tdraw =>
    clear cell0 cellz cf inj isput pdraw pfin tfin pmono tmono val vinj pdone hold2 hold4 at4 at5 at6 nev tick tdone tblock
    simp only [TS.drawT]
    try simp only [upd_at]
    grind
  case tfin =>
    clear cell0 cellz cb cf inj isput istake pdraw pfin tdraw pmono tmono val vinj pdone hold2 hold4 at4 at5 at6 nev tick tdone tblock
    simp only [TS.drawT]
    try simp only [upd_at]
    grind
  case pmono =>
    clear cell0 cellz cb cf own inj isput istake pdraw pfin tdraw tfin tmono val vinj pdone hold2 hold4 at4 at5 at6 nev tick tdone tblock
    simp only [TS.drawT]
    try simp only [upd_at]
    grind
  case tmono =>
    clear cell0 cellz cb cf own inj isput istake pdraw pfin tfin pmono val vinj pdone hold2 hold4 at4 at5 at6 nev tick tdone tblock
    simp only [TS.drawT]
    try simp only [upd_at]
    grind
  case val =>
    clear cell0 cellz cb cf own inj isput istake pdraw pfin tdraw tfin pmono tmono vinj pdone hold2 hold4 at4 at5 at6 nev tick tdone tblock
    simp only [TS.drawT]
    try simp only [upd_at]
    grind
  case vinj =>
    clear cell0 cellz cb cf own inj isput istake pdraw pfin tdraw tfin pmono tmono val pdone hold2 hold4 at4 at5 at6 nev tick tdone tblock
    simp only [TS.drawT]
    try simp only [upd_at]
    grind
  case pdone =>
    clear cell0 cellz cb cf own inj isput istake pdraw pfin tdraw tfin pmono tmono val vinj hold2 hold4 at4 at5 at6 nev tick tdone tblock
    simp only [TS.drawT]
    try simp only [upd_at]
    grind
  case hold2 =>
    clear cell0 cellz cb cf own inj isput istake pdraw pfin tdraw tfin pmono tmono val vinj pdone hold4 at4 at5 at6 nev tick tdone tblock
    simp only [TS.drawT]
    try simp only [upd_at]
    grind
  case hold4 =>
    clear cell0 cellz cb cf own inj isput istake pdraw pfin tdraw tfin pmono tmono val vinj pdone hold2 at4 at5 at6 nev tick tdone tblock
    simp only [TS.drawT]
    try simp only [upd_at]
    grind
  case at4 =>
    clear cell0 cellz cb cf own inj isput istake pdraw pfin tdraw tfin pmono tmono val vinj pdone hold2 hold4 at5 at6 nev tick tdone tblock
    simp only [TS.drawT]
    try simp only [upd_at]
    grind
  case at5 =>
    clear cell0 cellz cb cf own inj isput istake pdraw pfin tdraw tfin pmono tmono val vinj pdone hold2 hold4 at4 at6 nev tick tdone tblock
    simp only [TS.drawT]
    try simp only [upd_at]
    grind
  case at6 =>
    clear cell0 cellz cb cf own inj isput istake pdraw pfin tdraw tfin pmono tmono val vinj pdone hold2 hold4 at4 at5 nev tick tdone tblock
    simp only [TS.drawT]
    try simp only [upd_at]
    grind
  case nev =>
    clear cell0 cellz cb cf own inj isput istake pdraw pfin tdraw tfin pmono tmono val vinj pdone hold2 hold4 at4 at5 at6 tick tdone tblock
    simp only [TS.drawT]
    try simp only [upd_at]
    grind
  case tick =>
    clear cell0 cellz cb cf own inj isput istake pdraw pfin tdraw tfin pmono tmono val vinj pdone hold2 hold4 at4 at5 at6 nev tdone tblock
    simp only [TS.drawT]
    try simp only [upd_at]
    grind
  case tdone =>
    clear cell0 cellz cb cf own inj isput istake pdraw pfin tdraw tfin pmono tmono val vinj pdone hold2 hold4 at4 at5 at6 nev tick tblock
    simp only [TS.drawT]
    try simp only [upd_at]
    grind
  case tblock =>
    clear cell0 cellz cb cf own inj isput istake pdraw pfin tdraw tfin pmono tmono val vinj pdone hold2 hold4 at4 at5 at6 nev tick tdone
    simp only [TS.drawT]
    try simp only [upd_at]
    grind

set_option maxHeartbeats 4000000 in
theorem TInv.drawT (h : TInv sz s) (h3 : s.pc t = 3) (hz : s.hd < sz) : TInv sz ((s.drawT t).with_ t 4 s.hd) := by
  obtain ⟨cell0, cellz, cb, cf, own, inj, isput, istake, pdraw, pfin, tdraw, tfin, pmono, tmono, val, vinj, pdone, hold2, hold4, at4, at5, at6, nev, tick, tdone, tblock⟩ := h
  constructor
  case cell0 =>
    clear cellz cb cf own inj isput istake pdraw pfin tdraw tfin pmono tmono val vinj pdone hold2 hold4 at4 at5 at6 nev tick tdone tblock
    simp only [TS.drawT, TS.with_]
    try simp only [upd_at]
    grind
  case cellz =>
    clear cell0 cb cf own inj isput istake pdraw pfin tdraw tfin pmono tmono val vinj pdone hold2 hold4 at4 at5 at6 nev tick tdone tblock
    simp only [TS.drawT, TS.with_]
    try simp only [upd_at]
    grind
  case cb =>
    clear cell0 cellz cf own inj isput istake pdraw pfin tdraw tfin pmono tmono val vinj pdone hold2 hold4 at4 at5 at6 nev tick tdone tblock
    simp only [TS.drawT, TS.with_]
    try simp only [upd_at]
    grind
  case cf =>
    clear cell0 cellz cb own inj isput istake pdraw pfin tdraw tfin pmono tmono val vinj pdone hold2 hold4 at4 at5 at6 nev tick tdone tblock
    simp only [TS.drawT, TS.with_]
    try simp only [upd_at]
    grind
  case own =>
    clear cell0 cellz cb cf inj isput istake pdraw pfin tdraw tfin pmono tmono val vinj pdone hold2 hold4 at4 at5 at6 nev tick tdone tblock
    simp only [TS.drawT, TS.with_]
    try simp only [upd_at]
    grind
  case inj =>
    clear cell0 cellz cb cf own isput istake pdraw pfin tdraw tfin pmono tmono val vinj pdone hold2 hold4 at4 at5 at6 nev tick tdone tblock
    simp only [TS.drawT, TS.with_]
    try simp only [upd_at]
    grind
  case isput =>
    clear cell0 cellz cb cf own inj istake pdraw pfin tdraw tfin pmono tmono val vinj pdone hold2 hold4 at4 at5 at6 nev tick tdone tblock
    simp only [TS.drawT, TS.with_]
    try simp only [upd_at]
    grind
  case istake =>
    clear cell0 cellz cb cf own inj isput pdraw pfin tdraw tfin pmono tmono val vinj pdone hold2 hold4 at4 at5 at6 nev tick tdone tblock
    simp only [TS.drawT, TS.with_]
    try simp only [upd_at]
    grind
  case pdraw =>
    clear cell0 cellz cb cf own inj isput istake pfin tdraw tfin pmono tmono val vinj pdone hold2 hold4 at4 at5 at6 nev tick tdone tblock
    simp only [TS.drawT, TS.with_]
    try simp only [upd_at]
    grind
  case pfin =>
    clear cell0 cellz cb cf own inj isput istake pdraw tdraw tfin pmono tmono val vinj pdone hold2 hold4 at4 at5 at6 nev tick tdone tblock
    simp only [TS.drawT, TS.with_]
    try simp only [upd_at]
    grind
  case tdraw =>
    clear cell0 cellz cf inj isput pdraw pfin tfin pmono tmono val vinj pdone hold2 hold4 at4 at5 at6 nev tick tdone tblock
    simp only [TS.drawT, TS.with_]
    try simp only [upd_at]
    grind
  case tfin =>
    clear cell0 cellz cb cf inj isput istake pdraw pfin tdraw pmono tmono val vinj pdone hold2 hold4 at4 at5 at6 nev tick tdone tblock
    simp only [TS.drawT, TS.with_]
    try simp only [upd_at]
    grind
  case pmono =>
    clear cell0 cellz cb cf own inj isput istake pdraw pfin tdraw tfin tmono val vinj pdone hold2 hold4 at4 at5 at6 nev tick tdone tblock
    simp only [TS.drawT, TS.with_]
    try simp only [upd_at]
    grind
  case tmono =>
    clear cell0 cellz cb cf own inj isput istake pdraw pfin tfin pmono val vinj pdone hold2 hold4 at4 at5 at6 nev tick tdone tblock
    simp only [TS.drawT, TS.with_]
    try simp only [upd_at]
    grind
  case val =>
    clear cell0 cellz cb cf own inj isput istake pdraw pfin tdraw tfin pmono tmono vinj pdone hold2 hold4 at4 at5 at6 nev tick tdone tblock
    simp only [TS.drawT, TS.with_]
    try simp only [upd_at]
    grind
  case vinj =>
    clear cell0 cellz cb cf own inj isput istake pdraw pfin tdraw tfin pmono tmono val pdone hold2 hold4 at4 at5 at6 nev tick tdone tblock
    simp only [TS.drawT, TS.with_]
    try simp only [upd_at]
    grind
  case pdone =>
    clear cell0 cellz cb cf own inj isput istake pdraw pfin tdraw tfin pmono tmono val vinj hold2 hold4 at4 at5 at6 nev tick tdone tblock
    simp only [TS.drawT, TS.with_]
    try simp only [upd_at]
    grind
  case hold2 =>
    clear cell0 cellz cb cf own inj isput istake pdraw pfin tdraw tfin pmono tmono val vinj pdone hold4 at4 at5 at6 nev tick tdone tblock
    simp only [TS.drawT, TS.with_]
    try simp only [upd_at]
    grind
  case hold4 =>
    clear cell0 cellz cb cf own inj isput istake pdraw pfin tdraw tfin pmono tmono val vinj pdone hold2 at4 at5 at6 nev tick tdone tblock
    simp only [TS.drawT, TS.with_]
    try simp only [upd_at]
    grind
  case at4 =>
    clear cell0 cellz cb cf own inj isput istake pdraw pfin tdraw tfin pmono tmono val vinj pdone hold2 hold4 at5 at6 tick tdone tblock
    simp only [TS.drawT, TS.with_]
    try simp only [upd_at]
    grind
  case at5 =>
    clear cell0 cellz cb cf own inj isput istake pdraw pfin tdraw tfin pmono tmono val vinj pdone hold2 hold4 at4 at6 nev tick tdone tblock
    simp only [TS.drawT, TS.with_]
    try simp only [upd_at]
    grind
  case at6 =>
    clear cell0 cellz cb cf own inj isput istake pdraw pfin tdraw tfin pmono tmono val vinj pdone hold2 hold4 at4 at5 nev tick tdone tblock
    simp only [TS.drawT, TS.with_]
    try simp only [upd_at]
    grind
  case nev =>
    clear cell0 cellz cb cf own inj isput istake pdraw pfin tdraw tfin pmono tmono val vinj pdone hold2 hold4 at4 at5 at6 tick tdone tblock
    simp only [TS.drawT, TS.with_]
    try simp only [upd_at]
    grind
  case tick =>
    clear cell0 cellz cb cf own inj isput istake pdraw pfin tdraw tfin pmono tmono val vinj pdone hold2 hold4 at4 at5 at6 nev tdone tblock
    simp only [TS.drawT, TS.with_]
    try simp only [upd_at]
    grind
  case tdone =>
    clear cell0 cellz cb cf own inj isput istake pdraw pfin tdraw tfin pmono tmono val vinj pdone hold2 hold4 at4 at5 at6 nev tick tblock
    simp only [TS.drawT, TS.with_]
    try simp only [upd_at]
    grind
  case tblock =>
    clear cell0 cellz cb cf own inj isput istake pdraw pfin tdraw tfin pmono tmono val vinj pdone hold2 hold4 at4 at5 at6 nev tick tdone
    simp only [TS.drawT, TS.with_]
    try simp only [upd_at]
    grind

set_option maxHeartbeats 4000000 in
theorem TInv.back1 (h : TInv sz s) (h2 : s.pc t = 2) : TInv sz (s.to t 1) := by
  obtain ⟨cell0, cellz, cb, cf, own, inj, isput, istake, pdraw, pfin, tdraw, tfin, pmono, tmono, val, vinj, pdone, hold2, hold4, at4, at5, at6, nev, tick, tdone, tblock⟩ := h
  constructor
  case cell0 =>
    clear cellz cb cf own inj isput istake pdraw pfin tdraw tfin pmono tmono val vinj pdone hold2 hold4 at4 at5 at6 nev tick tdone tblock
    simp only [TS.to]
    try simp only [upd_at]
    grind
  case cellz =>
    clear cell0 cb cf own inj isput istake pdraw pfin tdraw tfin pmono tmono val vinj pdone hold2 hold4 at4 at5 at6 nev tick tdone tblock
    simp only [TS.to]
    try simp only [upd_at]
    grind
  case cb =>
    clear cell0 cellz cf own inj isput istake pdraw pfin tdraw tfin pmono tmono val vinj pdone hold2 hold4 at4 at5 at6 nev tick tdone tblock
    simp only [TS.to]
    try simp only [upd_at]
    grind
  case cf =>
    clear cell0 cellz cb own inj isput istake pdraw pfin tdraw tfin pmono tmono val vinj pdone hold2 hold4 at4 at5 at6 nev tick tdone tblock
    simp only [TS.to]
    try simp only [upd_at]
    grind
  case own =>
    clear cell0 cellz cb cf inj isput istake pdraw pfin tdraw tfin pmono tmono val vinj pdone hold2 hold4 at4 at5 at6 nev tick tdone tblock
    simp only [TS.to]
    try simp only [upd_at]
    grind
  case inj =>
    clear cell0 cellz cb cf own isput istake pdraw pfin tdraw tfin pmono tmono val vinj pdone hold2 hold4 at4 at5 at6 nev tick tdone tblock
    simp only [TS.to]
    try simp only [upd_at]
    grind
  case isput =>
    clear cell0 cellz cb cf own inj istake pdraw pfin tdraw tfin pmono tmono val vinj pdone hold2 hold4 at4 at5 at6 nev tick tdone tblock
    simp only [TS.to]
    try simp only [upd_at]
    grind
  case istake =>
    clear cell0 cellz cb cf own inj isput pdraw pfin tdraw tfin pmono tmono val vinj pdone hold2 hold4 at4 at5 at6 nev tick tdone tblock
    simp only [TS.to]
    try simp only [upd_at]
    grind
  case pdraw =>
    clear cell0 cellz cb cf own inj isput istake pfin tdraw tfin pmono tmono val vinj pdone hold2 hold4 at4 at5 at6 nev tick tdone tblock
    simp only [TS.to]
    try simp only [upd_at]
    grind
  case pfin =>
    clear cell0 cellz cb cf own inj isput istake pdraw tdraw tfin pmono tmono val vinj pdone hold2 hold4 at4 at5 at6 nev tick tdone tblock
    simp only [TS.to]
    try simp only [upd_at]
    grind
  case tdraw =>
    clear cell0 cellz cb cf own inj isput istake pdraw pfin tfin pmono tmono val vinj pdone hold2 hold4 at4 at5 at6 nev tick tdone tblock
    simp only [TS.to]
    try simp only [upd_at]
    grind
  case tfin =>
    clear cell0 cellz cb cf own inj isput istake pdraw pfin tdraw pmono tmono val vinj pdone hold2 hold4 at4 at5 at6 nev tick tdone tblock
    simp only [TS.to]
    try simp only [upd_at]
    grind
  case pmono =>
    clear cell0 cellz cb cf own inj isput istake pdraw pfin tdraw tfin tmono val vinj pdone hold2 hold4 at4 at5 at6 nev tick tdone tblock
    simp only [TS.to]
    try simp only [upd_at]
    grind
  case tmono =>
    clear cell0 cellz cb cf own inj isput istake pdraw pfin tdraw tfin pmono val vinj pdone hold2 hold4 at4 at5 at6 nev tick tdone tblock
    simp only [TS.to]
    try simp only [upd_at]
    grind
  case val =>
    clear cell0 cellz cb cf own inj isput istake pdraw pfin tdraw tfin pmono tmono vinj pdone hold2 hold4 at4 at5 at6 nev tick tdone tblock
    simp only [TS.to]
    try simp only [upd_at]
    grind
  case vinj =>
    clear cell0 cellz cb cf own inj isput istake pdraw pfin tdraw tfin pmono tmono val pdone hold2 hold4 at4 at5 at6 nev tick tdone tblock
    simp only [TS.to]
    try simp only [upd_at]
    grind
  case pdone =>
    clear cell0 cellz cb cf own inj isput istake pdraw pfin tdraw tfin pmono tmono val vinj hold2 hold4 at4 at5 at6 nev tick tdone tblock
    simp only [TS.to]
    try simp only [upd_at]
    grind
  case hold2 =>
    clear cell0 cellz cb cf own inj isput istake pdraw pfin tdraw tfin pmono tmono val vinj pdone hold4 at4 at5 at6 nev tick tdone tblock
    simp only [TS.to]
    try simp only [upd_at]
    grind
  case hold4 =>
    clear cell0 cellz cb cf own inj isput istake pdraw pfin tdraw tfin pmono tmono val vinj pdone hold2 at4 at5 at6 nev tick tdone tblock
    simp only [TS.to]
    try simp only [upd_at]
    grind
  case at4 =>
    clear cell0 cellz cb cf own inj isput istake pdraw pfin tdraw tfin pmono tmono val vinj pdone hold2 hold4 at5 at6 nev tick tdone tblock
    simp only [TS.to]
    try simp only [upd_at]
    grind
  case at5 =>
    clear cell0 cellz cb cf own inj isput istake pdraw pfin tdraw tfin pmono tmono val vinj pdone hold2 hold4 at4 at6 nev tick tdone tblock
    simp only [TS.to]
    try simp only [upd_at]
    grind
  case at6 =>
    clear cell0 cellz cb cf own inj isput istake pdraw pfin tdraw tfin pmono tmono val vinj pdone hold2 hold4 at4 at5 nev tick tdone tblock
    simp only [TS.to]
    try simp only [upd_at]
    grind
  case nev =>
    clear cell0 cellz cb cf own inj isput istake pdraw pfin tdraw tfin pmono tmono val vinj pdone hold2 hold4 at4 at5 at6 tick tdone tblock
    simp only [TS.to]
    try simp only [upd_at]
    grind
  case tick =>
    clear cell0 cellz cb cf own inj isput istake pdraw pfin tdraw tfin pmono tmono val vinj pdone hold2 hold4 at4 at5 at6 nev tdone tblock
    simp only [TS.to]
    try simp only [upd_at]
    grind
  case tdone =>
    clear cell0 cellz cb cf own inj isput istake pdraw pfin tdraw tfin pmono tmono val vinj pdone hold2 hold4 at4 at5 at6 nev tick tblock
    simp only [TS.to]
    try simp only [upd_at]
    grind
  case tblock =>
    clear cell0 cellz cb cf own inj isput istake pdraw pfin tdraw tfin pmono tmono val vinj pdone hold2 hold4 at4 at5 at6 nev tick tdone
    simp only [TS.to]
    try simp only [upd_at]
    grind

set_option maxHeartbeats 4000000 in
theorem TInv.back3 (h : TInv sz s) (h6 : s.pc t = 6) : TInv sz (s.to t 3) := by
  obtain ⟨cell0, cellz, cb, cf, own, inj, isput, istake, pdraw, pfin, tdraw, tfin, pmono, tmono, val, vinj, pdone, hold2, hold4, at4, at5, at6, nev, tick, tdone, tblock⟩ := h
  constructor
  case cell0 =>
    clear cellz cb cf own inj isput istake pdraw pfin tdraw tfin pmono tmono val vinj pdone hold2 hold4 at4 at5 at6 nev tick tdone tblock
    simp only [TS.to]
    try simp only [upd_at]
    grind
  case cellz =>
    clear cell0 cb cf own inj isput istake pdraw pfin tdraw tfin pmono tmono val vinj pdone hold2 hold4 at4 at5 at6 nev tick tdone tblock
    simp only [TS.to]
    try simp only [upd_at]
    grind
  case cb =>
    clear cell0 cellz cf own inj isput istake pdraw pfin tdraw tfin pmono tmono val vinj pdone hold2 hold4 at4 at5 at6 nev tick tdone tblock
    simp only [TS.to]
    try simp only [upd_at]
    grind
  case cf =>
    clear cell0 cellz cb own inj isput istake pdraw pfin tdraw tfin pmono tmono val vinj pdone hold2 hold4 at4 at5 at6 nev tick tdone tblock
    simp only [TS.to]
    try simp only [upd_at]
    grind
  case own =>
    clear cell0 cellz cb cf inj isput istake pdraw pfin tdraw tfin pmono tmono val vinj pdone hold2 hold4 at4 at5 at6 nev tick tdone tblock
    simp only [TS.to]
    try simp only [upd_at]
    grind
  case inj =>
    clear cell0 cellz cb cf own isput istake pdraw pfin tdraw tfin pmono tmono val vinj pdone hold2 hold4 at4 at5 at6 nev tick tdone tblock
    simp only [TS.to]
    try simp only [upd_at]
    grind
  case isput =>
    clear cell0 cellz cb cf own inj istake pdraw pfin tdraw tfin pmono tmono val vinj pdone hold2 hold4 at4 at5 at6 nev tick tdone tblock
    simp only [TS.to]
    try simp only [upd_at]
    grind
  case istake =>
    clear cell0 cellz cb cf own inj isput pdraw pfin tdraw tfin pmono tmono val vinj pdone hold2 hold4 at4 at5 at6 nev tick tdone tblock
    simp only [TS.to]
    try simp only [upd_at]
    grind
  case pdraw =>
    clear cell0 cellz cb cf own inj isput istake pfin tdraw tfin pmono tmono val vinj pdone hold2 hold4 at4 at5 at6 nev tick tdone tblock
    simp only [TS.to]
    try simp only [upd_at]
    grind
  case pfin =>
    clear cell0 cellz cb cf own inj isput istake pdraw tdraw tfin pmono tmono val vinj pdone hold2 hold4 at4 at5 at6 nev tick tdone tblock
    simp only [TS.to]
    try simp only [upd_at]
    grind
  case tdraw =>
    clear cell0 cellz cb cf own inj isput istake pdraw pfin tfin pmono tmono val vinj pdone hold2 hold4 at4 at5 at6 nev tick tdone tblock
    simp only [TS.to]
    try simp only [upd_at]
    grind
  case tfin =>
    clear cell0 cellz cb cf own inj isput istake pdraw pfin tdraw pmono tmono val vinj pdone hold2 hold4 at4 at5 at6 nev tick tdone tblock
    simp only [TS.to]
    try simp only [upd_at]
    grind
  case pmono =>
    clear cell0 cellz cb cf own inj isput istake pdraw pfin tdraw tfin tmono val vinj pdone hold2 hold4 at4 at5 at6 nev tick tdone tblock
    simp only [TS.to]
    try simp only [upd_at]
    grind
  case tmono =>
    clear cell0 cellz cb cf own inj isput istake pdraw pfin tdraw tfin pmono val vinj pdone hold2 hold4 at4 at5 at6 nev tick tdone tblock
    simp only [TS.to]
    try simp only [upd_at]
    grind
  case val =>
    clear cell0 cellz cb cf own inj isput istake pdraw pfin tdraw tfin pmono tmono vinj pdone hold2 hold4 at4 at5 at6 nev tick tdone tblock
    simp only [TS.to]
    try simp only [upd_at]
    grind
  case vinj =>
    clear cell0 cellz cb cf own inj isput istake pdraw pfin tdraw tfin pmono tmono val pdone hold2 hold4 at4 at5 at6 nev tick tdone tblock
    simp only [TS.to]
    try simp only [upd_at]
    grind
  case pdone =>
    clear cell0 cellz cb cf own inj isput istake pdraw pfin tdraw tfin pmono tmono val vinj hold2 hold4 at4 at5 at6 nev tick tdone tblock
    simp only [TS.to]
    try simp only [upd_at]
    grind
  case hold2 =>
    clear cell0 cellz cb cf own inj isput istake pdraw pfin tdraw tfin pmono tmono val vinj pdone hold4 at4 at5 at6 nev tick tdone tblock
    simp only [TS.to]
    try simp only [upd_at]
    grind
  case hold4 =>
    clear cell0 cellz cb cf own inj isput istake pdraw pfin tdraw tfin pmono tmono val vinj pdone hold2 at4 at5 at6 nev tick tdone tblock
    simp only [TS.to]
    try simp only [upd_at]
    grind
  case at4 =>
    clear cell0 cellz cb cf own inj isput istake pdraw pfin tdraw tfin pmono tmono val vinj pdone hold2 hold4 at5 at6 nev tick tdone tblock
    simp only [TS.to]
    try simp only [upd_at]
    grind
  case at5 =>
    clear cell0 cellz cb cf own inj isput istake pdraw pfin tdraw tfin pmono tmono val vinj pdone hold2 hold4 at4 at6 nev tick tdone tblock
    simp only [TS.to]
    try simp only [upd_at]
    grind
  case at6 =>
    clear cell0 cellz cb cf own inj isput istake pdraw pfin tdraw tfin pmono tmono val vinj pdone hold2 hold4 at4 at5 nev tick tdone tblock
    simp only [TS.to]
    try simp only [upd_at]
    grind
  case nev =>
    clear cell0 cellz cb cf own inj isput istake pdraw pfin tdraw tfin pmono tmono val vinj pdone hold2 hold4 at4 at5 at6 tick tdone tblock
    simp only [TS.to]
    try simp only [upd_at]
    grind
  case tick =>
    clear cell0 cellz cb cf own inj isput istake pdraw pfin tdraw tfin pmono tmono val vinj pdone hold2 hold4 at4 at5 at6 nev tdone tblock
    simp only [TS.to]
    try simp only [upd_at]
    grind
  case tdone =>
    clear cell0 cellz cb cf own inj isput istake pdraw pfin tdraw tfin pmono tmono val vinj pdone hold2 hold4 at4 at5 at6 nev tick tblock
    simp only [TS.to]
    try simp only [upd_at]
    grind
  case tblock =>
    clear cell0 cellz cb cf own inj isput istake pdraw pfin tdraw tfin pmono tmono val vinj pdone hold2 hold4 at4 at5 at6 nev tick tdone
    simp only [TS.to]
    try simp only [upd_at]
    grind

set_option maxHeartbeats 4000000 in
theorem TInv.finX (h : TInv sz s) (h1 : s.pc t = 1 ∨ s.pc t = 3) (code v : Int) (hc : code ≠ 0) (hd : code ≠ 10) : TInv sz (s.fin t code v) := by
  obtain ⟨cell0, cellz, cb, cf, own, inj, isput, istake, pdraw, pfin, tdraw, tfin, pmono, tmono, val, vinj, pdone, hold2, hold4, at4, at5, at6, nev, tick, tdone, tblock⟩ := h
  constructor
  case cell0 =>
    clear cellz cb cf own inj isput istake pdraw pfin tdraw tfin pmono tmono val vinj pdone hold2 hold4 at4 at5 at6 nev tick tdone tblock
    simp only [TS.fin]
    try simp only [upd_at]
    grind
  case cellz =>
    clear cell0 cb cf own inj isput istake pdraw pfin tdraw tfin pmono tmono val vinj pdone hold2 hold4 at4 at5 at6 nev tick tdone tblock
    simp only [TS.fin]
    try simp only [upd_at]
    grind
  case cb =>
    clear cell0 cellz cf inj isput istake pdraw pfin tdraw tfin pmono tmono val vinj pdone hold2 hold4 at4 at5 at6 nev tick tdone tblock
    simp only [TS.fin]
    try simp only [upd_at]
    grind
  case cf =>
    clear cell0 cellz inj isput istake pdraw pfin tdraw tfin pmono tmono val vinj pdone hold2 hold4 at4 at5 at6 nev tick tdone tblock
    simp only [TS.fin]
    try simp only [upd_at]
    grind
  case own =>
    clear cell0 cellz cb cf isput istake pdraw pfin tdraw tfin pmono tmono val vinj pdone hold2 hold4 at4 at5 at6 nev tick tdone tblock
    simp only [TS.fin]
    try simp only [upd_at]
    grind
  case inj =>
    clear cell0 cellz cb cf own isput istake pdraw pfin tdraw tfin pmono tmono val vinj pdone hold2 hold4 at4 at5 at6 nev tick tdone tblock
    simp only [TS.fin]
    try simp only [upd_at]
    grind
  case isput =>
    clear cell0 cellz cb cf own istake pdraw pfin tdraw tfin pmono tmono val vinj pdone hold2 hold4 at4 at5 at6 nev tick tdone tblock
    simp only [TS.fin]
    try simp only [upd_at]
    grind
  case istake =>
    clear cell0 cellz cb cf own isput pdraw pfin tdraw tfin pmono tmono val vinj pdone hold2 hold4 at4 at5 at6 nev tick tdone tblock
    simp only [TS.fin]
    try simp only [upd_at]
    grind
  case pdraw =>
    clear cell0 cellz cb cf own inj isput istake pfin tdraw tfin pmono tmono val vinj pdone hold2 hold4 at4 at5 at6 nev tick tdone tblock
    simp only [TS.fin]
    try simp only [upd_at]
    grind
  case pfin =>
    clear cell0 cellz cb cf own inj isput istake tdraw tfin pmono tmono val vinj pdone hold2 hold4 at4 at5 at6 nev tick tdone tblock
    simp only [TS.fin]
    try simp only [upd_at]
    grind
  case tdraw =>
    clear cell0 cellz cb cf own inj isput istake pdraw pfin tfin pmono tmono val vinj pdone hold2 hold4 at4 at5 at6 nev tick tdone tblock
    simp only [TS.fin]
    try simp only [upd_at]
    grind
  case tfin =>
    clear cell0 cellz cb cf own inj isput istake pdraw pfin pmono tmono val vinj pdone hold2 hold4 at4 at5 at6 nev tick tdone tblock
    simp only [TS.fin]
    try simp only [upd_at]
    grind
  case pmono =>
    clear cell0 cellz cb cf own inj isput istake pdraw pfin tdraw tfin tmono val vinj pdone hold2 hold4 at4 at5 at6 nev tick tdone tblock
    simp only [TS.fin]
    try simp only [upd_at]
    grind
  case tmono =>
    clear cell0 cellz cb cf own inj isput istake pdraw pfin tdraw tfin pmono val vinj pdone hold2 hold4 at4 at5 at6 nev tick tdone tblock
    simp only [TS.fin]
    try simp only [upd_at]
    grind
  case val =>
    clear cell0 cellz cb cf inj isput istake pdraw pfin tdraw tfin pmono tmono vinj pdone hold2 hold4 at4 at5 at6 nev tick tdone tblock
    simp only [TS.fin]
    try simp only [upd_at]
    grind
  case vinj =>
    clear cell0 cellz cb cf own inj isput istake pdraw pfin tdraw tfin pmono tmono val pdone hold2 hold4 at4 at5 at6 nev tick tdone tblock
    simp only [TS.fin]
    try simp only [upd_at]
    grind
  case pdone =>
    clear cell0 cellz cb cf own inj isput istake pdraw pfin tdraw tfin pmono tmono val vinj hold2 hold4 at4 at5 at6 nev tick tdone tblock
    simp only [TS.fin]
    try simp only [upd_at]
    grind
  case hold2 =>
    clear cell0 cellz cb cf own inj isput istake pdraw pfin tdraw tfin pmono tmono val vinj pdone hold4 at4 at5 at6 nev tick tdone tblock
    simp only [TS.fin]
    try simp only [upd_at]
    grind
  case hold4 =>
    clear cell0 cellz cb cf own inj isput istake pdraw pfin tdraw tfin pmono tmono val vinj pdone hold2 at4 at5 at6 nev tick tdone tblock
    simp only [TS.fin]
    try simp only [upd_at]
    grind
  case at4 =>
    clear cell0 cellz cb cf own inj isput istake pdraw pfin tdraw tfin pmono tmono val vinj pdone hold2 hold4 at5 at6 nev tick tdone tblock
    simp only [TS.fin]
    try simp only [upd_at]
    grind
  case at5 =>
    clear cell0 cellz cb cf own inj isput istake pdraw pfin tdraw tfin pmono tmono val vinj pdone hold2 hold4 at4 at6 nev tick tdone tblock
    simp only [TS.fin]
    try simp only [upd_at]
    grind
  case at6 =>
    clear cell0 cellz cb cf own inj isput istake pdraw pfin tdraw tfin pmono tmono val vinj pdone hold2 hold4 at4 at5 nev tick tdone tblock
    simp only [TS.fin]
    try simp only [upd_at]
    grind
  case nev =>
    clear cell0 cellz cb cf own inj isput istake pdraw pfin tdraw tfin pmono tmono val vinj pdone hold2 hold4 at4 at5 at6 tick tdone tblock
    simp only [TS.fin]
    try simp only [upd_at]
    grind
  case tick =>
    clear cell0 cellz cb cf inj isput istake pdraw pfin tdraw tfin pmono tmono val vinj pdone hold2 hold4 at4 at5 at6 nev tdone tblock
    simp only [TS.fin]
    try simp only [upd_at]
    grind
  case tdone =>
    clear cell0 cellz cb cf inj isput istake pdraw pfin tdraw tfin pmono tmono vinj pdone hold2 hold4 at4 at5 at6 nev tick tblock
    simp only [TS.fin]
    try simp only [upd_at]
    grind
  case tblock =>
    clear cell0 cellz cb cf inj isput istake pdraw pfin tdraw tfin pmono tmono val vinj pdone hold2 hold4 at4 at5 at6 nev tick tdone
    simp only [TS.fin]
    try simp only [upd_at]
    grind

set_option maxHeartbeats 4000000 in
theorem TInv.never (h : TInv sz s) (h4 : s.pc t = 4) (hc : s.cell (s.at_ t) = 0) : TInv sz ((s.put (s.at_ t) 1).to t 6) := by
  obtain ⟨cell0, cellz, cb, cf, own, inj, isput, istake, pdraw, pfin, tdraw, tfin, pmono, tmono, val, vinj, pdone, hold2, hold4, at4, at5, at6, nev, tick, tdone, tblock⟩ := h
  constructor
  case cell0 =>
    clear cellz cb cf own inj isput istake pdraw pfin tdraw tfin pmono tmono val vinj pdone hold2 hold4 at4 at5 at6 nev tick tdone tblock
    simp only [TS.put, TS.to]
    try simp only [upd_at]
    grind
  case cellz =>
    clear cell0 cb cf own inj isput istake pdraw pfin tdraw tfin pmono tmono val vinj pdone hold2 at4 at5 at6 nev tick tdone tblock
    simp only [TS.put, TS.to]
    try simp only [upd_at]
    grind
  case cb =>
    clear cell0 cellz cf own inj isput istake pdraw pfin tdraw tfin pmono tmono val vinj pdone hold2 hold4 at4 at5 at6 nev tick tdone tblock
    simp only [TS.put, TS.to]
    try simp only [upd_at]
    grind
  case cf =>
    clear cell0 cellz cb own inj isput istake pdraw pfin tdraw tfin pmono tmono val vinj pdone hold2 hold4 at4 at5 at6 nev tick tdone tblock
    simp only [TS.put, TS.to]
    try simp only [upd_at]
    grind
  case own =>
    clear cell0 cellz cb cf inj isput istake pdraw pfin tdraw tfin pmono tmono val vinj pdone hold2 hold4 at4 at5 at6 nev tick tdone tblock
    simp only [TS.put, TS.to]
    try simp only [upd_at]
    grind
  case inj =>
    clear cell0 cellz cb cf own isput istake pdraw pfin tdraw tfin pmono tmono val vinj pdone hold2 hold4 at4 at5 at6 nev tick tdone tblock
    simp only [TS.put, TS.to]
    try simp only [upd_at]
    grind
  case isput =>
    clear cell0 cellz cb cf own inj istake pdraw pfin tdraw tfin pmono tmono val vinj pdone hold2 hold4 at4 at5 at6 nev tick tdone tblock
    simp only [TS.put, TS.to]
    try simp only [upd_at]
    grind
  case istake =>
    clear cell0 cellz cb cf own inj isput pdraw pfin tdraw tfin pmono tmono val vinj pdone hold2 hold4 at4 at5 at6 nev tick tdone tblock
    simp only [TS.put, TS.to]
    try simp only [upd_at]
    grind
  case pdraw =>
    clear cell0 cellz cb cf own inj isput istake pfin tdraw tfin pmono tmono val vinj pdone hold2 hold4 at4 at5 at6 nev tick tdone tblock
    simp only [TS.put, TS.to]
    try simp only [upd_at]
    grind
  case pfin =>
    clear cell0 cellz cb cf own inj isput istake pdraw tdraw tfin pmono tmono val vinj pdone hold2 hold4 at4 at5 at6 nev tick tdone tblock
    simp only [TS.put, TS.to]
    try simp only [upd_at]
    grind
  case tdraw =>
    clear cell0 cellz cb cf own inj isput istake pdraw pfin tfin pmono tmono val vinj pdone hold2 hold4 at4 at5 at6 nev tick tdone tblock
    simp only [TS.put, TS.to]
    try simp only [upd_at]
    grind
  case tfin =>
    clear cell0 cellz cb cf own inj isput istake pdraw pfin tdraw pmono tmono val vinj pdone hold2 hold4 at4 at5 at6 nev tick tdone tblock
    simp only [TS.put, TS.to]
    try simp only [upd_at]
    grind
  case pmono =>
    clear cell0 cellz cb cf own inj isput istake pdraw pfin tdraw tfin tmono val vinj pdone hold2 hold4 at4 at5 at6 nev tick tdone tblock
    simp only [TS.put, TS.to]
    try simp only [upd_at]
    grind
  case tmono =>
    clear cell0 cellz cb cf own inj isput istake pdraw pfin tdraw tfin pmono val vinj pdone hold2 hold4 at4 at5 at6 nev tick tdone tblock
    simp only [TS.put, TS.to]
    try simp only [upd_at]
    grind
  case val =>
    clear cell0 cellz cb cf own inj isput istake pdraw pfin tdraw tfin pmono tmono vinj pdone hold2 hold4 at4 at5 at6 nev tick tdone tblock
    simp only [TS.put, TS.to]
    try simp only [upd_at]
    grind
  case vinj =>
    clear cell0 cellz cb cf own inj isput istake pdraw pfin tdraw tfin pmono tmono val pdone hold2 hold4 at4 at5 at6 nev tick tdone tblock
    simp only [TS.put, TS.to]
    try simp only [upd_at]
    grind
  case pdone =>
    clear cell0 cellz cb cf own inj isput istake pdraw pfin tdraw tfin pmono tmono val vinj hold2 hold4 at4 at5 at6 nev tick tdone tblock
    simp only [TS.put, TS.to]
    try simp only [upd_at]
    grind
  case hold2 =>
    clear cell0 cellz cb cf own inj isput istake pdraw pfin tdraw tfin pmono tmono val vinj pdone hold4 at4 at5 at6 nev tick tdone tblock
    simp only [TS.put, TS.to]
    try simp only [upd_at]
    grind
  case hold4 =>
    clear cell0 cellz cb cf own inj isput istake pdraw pfin tdraw tfin pmono tmono val vinj pdone hold2 at4 at5 at6 nev tick tdone tblock
    simp only [TS.put, TS.to]
    try simp only [upd_at]
    grind
  case at4 =>
    clear cell0 cellz cb cf own isput istake pdraw pfin tdraw tfin pmono tmono val vinj pdone hold2 at5 at6 nev tick tdone tblock
    simp only [TS.put, TS.to]
    try simp only [upd_at]
    grind
  case at5 =>
    clear cell0 cellz cb cf own inj isput istake pdraw pfin tdraw tfin pmono tmono val vinj pdone hold2 hold4 at4 at6 nev tick tdone tblock
    simp only [TS.put, TS.to]
    try simp only [upd_at]
    grind
  case at6 =>
    clear cell0 cellz cb cf own inj isput istake pdraw pfin tdraw tfin pmono tmono val vinj pdone hold2 hold4 at4 at5 nev tick tdone tblock
    simp only [TS.put, TS.to]
    try simp only [upd_at]
    grind
  case nev =>
    clear cell0 cellz cb cf own inj isput istake pdraw pfin tdraw tfin pmono tmono val vinj pdone hold2 at4 at5 at6 tick tdone tblock
    simp only [TS.put, TS.to]
    try simp only [upd_at]
    grind
  case tick =>
    clear cell0 cellz cb cf own inj isput istake pdraw pfin tdraw tfin pmono tmono val vinj pdone hold2 hold4 at4 at5 at6 nev tdone tblock
    simp only [TS.put, TS.to]
    try simp only [upd_at]
    grind
  case tdone =>
    clear cell0 cellz cb cf own inj isput istake pdraw pfin tdraw tfin pmono tmono val vinj pdone hold2 hold4 at4 at5 at6 nev tick tblock
    simp only [TS.put, TS.to]
    try simp only [upd_at]
    grind
  case tblock =>
    clear cell0 cellz cb cf own inj isput istake pdraw pfin tdraw tfin pmono tmono val vinj pdone hold2 hold4 at4 at5 at6 nev tick tdone
    simp only [TS.put, TS.to]
    try simp only [upd_at]
    grind

set_option maxHeartbeats 4000000 in
theorem TInv.seen (h : TInv sz s) (h4 : s.pc t = 4) (hc : s.cell (s.at_ t) ≠ 0) : TInv sz (s.to t 5) := by
  obtain ⟨cell0, cellz, cb, cf, own, inj, isput, istake, pdraw, pfin, tdraw, tfin, pmono, tmono, val, vinj, pdone, hold2, hold4, at4, at5, at6, nev, tick, tdone, tblock⟩ := h
  constructor
  case cell0 =>
    clear cellz cb cf own inj isput istake pdraw pfin tdraw tfin pmono tmono val vinj pdone hold2 hold4 at4 at5 at6 nev tick tdone tblock
    simp only [TS.to]
    try simp only [upd_at]
    grind
  case cellz =>
    clear cell0 cb cf own inj isput istake pdraw pfin tdraw tfin pmono tmono val vinj pdone hold2 hold4 at4 at5 at6 nev tick tdone tblock
    simp only [TS.to]
    try simp only [upd_at]
    grind
  case cb =>
    clear cell0 cellz cf own inj isput istake pdraw pfin tdraw tfin pmono tmono val vinj pdone hold2 hold4 at4 at5 at6 nev tick tdone tblock
    simp only [TS.to]
    try simp only [upd_at]
    grind
  case cf =>
    clear cell0 cellz cb own inj isput istake pdraw pfin tdraw tfin pmono tmono val vinj pdone hold2 hold4 at4 at5 at6 nev tick tdone tblock
    simp only [TS.to]
    try simp only [upd_at]
    grind
  case own =>
    clear cell0 cellz cb cf inj isput istake pdraw pfin tdraw tfin pmono tmono val vinj pdone hold2 hold4 at4 at5 at6 nev tick tdone tblock
    simp only [TS.to]
    try simp only [upd_at]
    grind
  case inj =>
    clear cell0 cellz cb cf own isput istake pdraw pfin tdraw tfin pmono tmono val vinj pdone hold2 hold4 at4 at5 at6 nev tick tdone tblock
    simp only [TS.to]
    try simp only [upd_at]
    grind
  case isput =>
    clear cell0 cellz cb cf own inj istake pdraw pfin tdraw tfin pmono tmono val vinj pdone hold2 hold4 at4 at5 at6 nev tick tdone tblock
    simp only [TS.to]
    try simp only [upd_at]
    grind
  case istake =>
    clear cell0 cellz cb cf own inj isput pdraw pfin tdraw tfin pmono tmono val vinj pdone hold2 hold4 at4 at5 at6 nev tick tdone tblock
    simp only [TS.to]
    try simp only [upd_at]
    grind
  case pdraw =>
    clear cell0 cellz cb cf own inj isput istake pfin tdraw tfin pmono tmono val vinj pdone hold2 hold4 at4 at5 at6 nev tick tdone tblock
    simp only [TS.to]
    try simp only [upd_at]
    grind
  case pfin =>
    clear cell0 cellz cb cf own inj isput istake pdraw tdraw tfin pmono tmono val vinj pdone hold2 hold4 at4 at5 at6 nev tick tdone tblock
    simp only [TS.to]
    try simp only [upd_at]
    grind
  case tdraw =>
    clear cell0 cellz cb cf own inj isput istake pdraw pfin tfin pmono tmono val vinj pdone hold2 hold4 at4 at5 at6 nev tick tdone tblock
    simp only [TS.to]
    try simp only [upd_at]
    grind
  case tfin =>
    clear cell0 cellz cb cf own inj isput istake pdraw pfin tdraw pmono tmono val vinj pdone hold2 hold4 at4 at5 at6 nev tick tdone tblock
    simp only [TS.to]
    try simp only [upd_at]
    grind
  case pmono =>
    clear cell0 cellz cb cf own inj isput istake pdraw pfin tdraw tfin tmono val vinj pdone hold2 hold4 at4 at5 at6 nev tick tdone tblock
    simp only [TS.to]
    try simp only [upd_at]
    grind
  case tmono =>
    clear cell0 cellz cb cf own inj isput istake pdraw pfin tdraw tfin pmono val vinj pdone hold2 hold4 at4 at5 at6 nev tick tdone tblock
    simp only [TS.to]
    try simp only [upd_at]
    grind
  case val =>
    clear cell0 cellz cb cf own inj isput istake pdraw pfin tdraw tfin pmono tmono vinj pdone hold2 hold4 at4 at5 at6 nev tick tdone tblock
    simp only [TS.to]
    try simp only [upd_at]
    grind
  case vinj =>
    clear cell0 cellz cb cf own inj isput istake pdraw pfin tdraw tfin pmono tmono val pdone hold2 hold4 at4 at5 at6 nev tick tdone tblock
    simp only [TS.to]
    try simp only [upd_at]
    grind
  case pdone =>
    clear cell0 cellz cb cf own inj isput istake pdraw pfin tdraw tfin pmono tmono val vinj hold2 hold4 at4 at5 at6 nev tick tdone tblock
    simp only [TS.to]
    try simp only [upd_at]
    grind
  case hold2 =>
    clear cell0 cellz cb cf own inj isput istake pdraw pfin tdraw tfin pmono tmono val vinj pdone hold4 at4 at5 at6 nev tick tdone tblock
    simp only [TS.to]
    try simp only [upd_at]
    grind
  case hold4 =>
    clear cell0 cellz cb cf own inj isput istake pdraw pfin tdraw tfin pmono tmono val vinj pdone hold2 at4 at5 at6 nev tick tdone tblock
    simp only [TS.to]
    try simp only [upd_at]
    grind
  case at4 =>
    clear cell0 cellz cb cf own inj isput istake pdraw pfin tdraw tfin pmono tmono val vinj pdone hold2 hold4 at5 at6 nev tick tdone tblock
    simp only [TS.to]
    try simp only [upd_at]
    grind
  case at5 =>
    clear cellz cb cf own inj isput istake pdraw pfin tdraw tfin pmono tmono val vinj pdone hold2 hold4 at6 nev tick tdone tblock
    simp only [TS.to]
    try simp only [upd_at]
    grind
  case at6 =>
    clear cell0 cellz cb cf own inj isput istake pdraw pfin tdraw tfin pmono tmono val vinj pdone hold2 hold4 at4 at5 nev tick tdone tblock
    simp only [TS.to]
    try simp only [upd_at]
    grind
  case nev =>
    clear cell0 cellz cb cf own inj isput istake pdraw pfin tdraw tfin pmono tmono val vinj pdone hold2 hold4 at4 at5 at6 tick tdone tblock
    simp only [TS.to]
    try simp only [upd_at]
    grind
  case tick =>
    clear cell0 cellz cb cf own inj isput istake pdraw pfin tdraw tfin pmono tmono val vinj pdone hold2 hold4 at4 at5 at6 nev tdone tblock
    simp only [TS.to]
    try simp only [upd_at]
    grind
  case tdone =>
    clear cell0 cellz cb cf own inj isput istake pdraw pfin tdraw tfin pmono tmono val vinj pdone hold2 hold4 at4 at5 at6 nev tick tblock
    simp only [TS.to]
    try simp only [upd_at]
    grind
  case tblock =>
    clear cell0 cellz cb cf own inj isput istake pdraw pfin tdraw tfin pmono tmono val vinj pdone hold2 hold4 at4 at5 at6 nev tick tdone
    simp only [TS.to]
    try simp only [upd_at]
    grind

set_option maxHeartbeats 4000000 in
theorem TInv.takeOk (h : TInv sz s) (h5 : s.pc t = 5) : TInv sz (s.fin t 0 (s.cell (s.at_ t) - 2)) := by
  obtain ⟨cell0, cellz, cb, cf, own, inj, isput, istake, pdraw, pfin, tdraw, tfin, pmono, tmono, val, vinj, pdone, hold2, hold4, at4, at5, at6, nev, tick, tdone, tblock⟩ := h
  constructor
  case cell0 =>
    clear cellz cb cf own inj isput istake pdraw pfin tdraw tfin pmono tmono val vinj pdone hold2 hold4 at4 at5 at6 nev tick tdone tblock
    simp only [TS.fin]
    try simp only [upd_at]
    grind
  case cellz =>
    clear cell0 cb cf own inj isput istake pdraw pfin tdraw tfin pmono tmono val vinj pdone hold2 hold4 at4 at5 at6 nev tick tdone tblock
    simp only [TS.fin]
    try simp only [upd_at]
    grind
  case cb =>
    clear cell0 cellz cf inj isput istake pdraw pfin tdraw tfin pmono tmono val vinj pdone hold2 hold4 at4 at5 at6 nev tick tdone tblock
    simp only [TS.fin]
    try simp only [upd_at]
    grind
  case cf =>
    clear cell0 cellz inj isput istake pdraw pfin tdraw tfin pmono tmono val vinj pdone hold2 hold4 at4 at5 at6 nev tick tdone tblock
    simp only [TS.fin]
    try simp only [upd_at]
    grind
  case own =>
    clear cell0 cellz cb cf isput istake pdraw pfin tdraw tfin pmono tmono val vinj pdone hold2 hold4 at4 at5 at6 nev tick tdone tblock
    simp only [TS.fin]
    try simp only [upd_at]
    grind
  case inj =>
    clear cell0 cellz cb cf own isput istake pdraw pfin tdraw tfin pmono tmono val vinj pdone hold2 hold4 at4 at5 at6 nev tick tdone tblock
    simp only [TS.fin]
    try simp only [upd_at]
    grind
  case isput =>
    clear cell0 cellz cb cf own istake pdraw pfin tdraw tfin pmono tmono val vinj pdone hold2 hold4 at4 at5 at6 nev tick tdone tblock
    simp only [TS.fin]
    try simp only [upd_at]
    grind
  case istake =>
    clear cell0 cellz cb cf own isput pdraw pfin tdraw tfin pmono tmono val vinj pdone hold2 hold4 at4 at5 at6 nev tick tdone tblock
    simp only [TS.fin]
    try simp only [upd_at]
    grind
  case pdraw =>
    clear cell0 cellz cb cf own inj isput istake pfin tdraw tfin pmono tmono val vinj pdone hold2 hold4 at4 at5 at6 nev tick tdone tblock
    simp only [TS.fin]
    try simp only [upd_at]
    grind
  case pfin =>
    clear cell0 cellz cb cf own inj isput istake tdraw tfin pmono tmono val vinj pdone hold2 hold4 at4 at5 at6 nev tick tdone tblock
    simp only [TS.fin]
    try simp only [upd_at]
    grind
  case tdraw =>
    clear cell0 cellz cb cf own inj isput istake pdraw pfin tfin pmono tmono val vinj pdone hold2 hold4 at4 at5 at6 nev tick tdone tblock
    simp only [TS.fin]
    try simp only [upd_at]
    grind
  case tfin =>
    clear cell0 cellz cb cf own inj isput istake pdraw pfin pmono tmono val vinj pdone hold2 hold4 at4 at5 at6 nev tick tdone tblock
    simp only [TS.fin]
    try simp only [upd_at]
    grind
  case pmono =>
    clear cell0 cellz cb cf own inj isput istake pdraw pfin tdraw tfin tmono val vinj pdone hold2 hold4 at4 at5 at6 nev tick tdone tblock
    simp only [TS.fin]
    try simp only [upd_at]
    grind
  case tmono =>
    clear cell0 cellz cb cf own inj isput istake pdraw pfin tdraw tfin pmono val vinj pdone hold2 hold4 at4 at5 at6 nev tick tdone tblock
    simp only [TS.fin]
    try simp only [upd_at]
    grind
  case val =>
    clear cell0 cellz cb cf inj isput pfin tdraw tfin pmono tmono vinj pdone hold2 hold4 at4 at5 at6 nev tick tdone tblock
    simp only [TS.fin]
    try simp only [upd_at]
    grind
  case vinj =>
    clear cell0 cellz cb cf own inj isput istake pdraw pfin tdraw tfin pmono tmono val pdone hold2 hold4 at4 at5 at6 nev tick tdone tblock
    simp only [TS.fin]
    try simp only [upd_at]
    grind
  case pdone =>
    clear cell0 cellz cb cf own inj isput pdraw pfin tdraw tfin pmono tmono val vinj hold2 hold4 at4 at5 at6 nev tick tdone tblock
    simp only [TS.fin]
    try simp only [upd_at]
    grind
  case hold2 =>
    clear cell0 cellz cb cf own inj isput istake pdraw pfin tdraw tfin pmono tmono val vinj pdone hold4 at4 at5 at6 nev tick tdone tblock
    simp only [TS.fin]
    try simp only [upd_at]
    grind
  case hold4 =>
    clear cell0 cellz cb cf own inj isput istake pdraw pfin tdraw tfin pmono tmono val vinj pdone hold2 at4 at5 at6 nev tick tdone tblock
    simp only [TS.fin]
    try simp only [upd_at]
    grind
  case at4 =>
    clear cell0 cellz cb cf own inj isput istake pdraw pfin tdraw tfin pmono tmono val vinj pdone hold2 hold4 at5 at6 nev tick tdone tblock
    simp only [TS.fin]
    try simp only [upd_at]
    grind
  case at5 =>
    clear cell0 cellz cb cf own inj isput istake pdraw pfin tdraw tfin pmono tmono val vinj pdone hold2 hold4 at4 at6 nev tick tdone tblock
    simp only [TS.fin]
    try simp only [upd_at]
    grind
  case at6 =>
    clear cell0 cellz cb cf own inj isput istake pdraw pfin tdraw tfin pmono tmono val vinj pdone hold2 hold4 at4 at5 nev tick tdone tblock
    simp only [TS.fin]
    try simp only [upd_at]
    grind
  case nev =>
    clear cell0 cellz cb cf own inj isput istake pdraw pfin tdraw tfin pmono tmono val vinj pdone hold2 hold4 at4 at5 at6 tick tdone tblock
    simp only [TS.fin]
    try simp only [upd_at]
    grind
  case tick =>
    clear cell0 cellz cb cf inj isput pdraw pfin tdraw tfin pmono tmono val vinj pdone hold2 at4 at6 nev tdone tblock
    simp only [TS.fin]
    try simp only [upd_at]
    grind
  case tdone =>
    clear cell0 cellz cf inj isput pfin tdraw tfin pmono tmono vinj pdone hold2 at4 at6 nev tick tblock
    simp only [TS.fin]
    try simp only [upd_at]
    grind
  case tblock =>
    clear cell0 cellz cb cf inj isput istake pdraw pfin tdraw tfin pmono tmono val vinj pdone hold2 hold4 at4 at5 at6 nev tick tdone
    simp only [TS.fin]
    try simp only [upd_at]
    grind

set_option maxHeartbeats 4000000 in
theorem TInv.block (h : TInv sz s) (h6 : s.pc t = 6) (hl : s.tl ≤ s.at_ t + 1) (v : Int) : TInv sz (s.fin t 10 v) := by
  obtain ⟨cell0, cellz, cb, cf, own, inj, isput, istake, pdraw, pfin, tdraw, tfin, pmono, tmono, val, vinj, pdone, hold2, hold4, at4, at5, at6, nev, tick, tdone, tblock⟩ := h
  constructor
  case cell0 =>
    clear cellz cb cf own inj isput istake pdraw pfin tdraw tfin pmono tmono val vinj pdone hold2 hold4 at4 at5 at6 nev tick tdone tblock
    simp only [TS.fin]
    try simp only [upd_at]
    grind
  case cellz =>
    clear cell0 cb cf own inj isput istake pdraw pfin tdraw tfin pmono tmono val vinj pdone hold2 hold4 at4 at5 at6 nev tick tdone tblock
    simp only [TS.fin]
    try simp only [upd_at]
    grind
  case cb =>
    clear cell0 cellz cf inj isput istake pdraw pfin tdraw tfin pmono tmono val vinj pdone hold2 hold4 at4 at5 at6 nev tick tdone tblock
    simp only [TS.fin]
    try simp only [upd_at]
    grind
  case cf =>
    clear cell0 cellz inj isput istake pdraw pfin tdraw tfin pmono tmono val vinj pdone hold2 hold4 at4 at5 at6 nev tick tdone tblock
    simp only [TS.fin]
    try simp only [upd_at]
    grind
  case own =>
    clear cell0 cellz cb cf isput istake pdraw pfin tdraw tfin pmono tmono val vinj pdone hold2 hold4 at4 at5 at6 nev tick tdone tblock
    simp only [TS.fin]
    try simp only [upd_at]
    grind
  case inj =>
    clear cell0 cellz cb cf own isput istake pdraw pfin tdraw tfin pmono tmono val vinj pdone hold2 hold4 at4 at5 at6 nev tick tdone tblock
    simp only [TS.fin]
    try simp only [upd_at]
    grind
  case isput =>
    clear cell0 cellz cb cf own istake pdraw pfin tdraw tfin pmono tmono val vinj pdone hold2 hold4 at4 at5 at6 nev tick tdone tblock
    simp only [TS.fin]
    try simp only [upd_at]
    grind
  case istake =>
    clear cell0 cellz cb cf own isput pdraw pfin tdraw tfin pmono tmono val vinj pdone hold2 hold4 at4 at5 at6 nev tick tdone tblock
    simp only [TS.fin]
    try simp only [upd_at]
    grind
  case pdraw =>
    clear cell0 cellz cb cf own inj isput istake pfin tdraw tfin pmono tmono val vinj pdone hold2 hold4 at4 at5 at6 nev tick tdone tblock
    simp only [TS.fin]
    try simp only [upd_at]
    grind
  case pfin =>
    clear cell0 cellz cb cf own inj isput istake tdraw tfin pmono tmono val vinj pdone hold2 hold4 at4 at5 at6 nev tick tdone tblock
    simp only [TS.fin]
    try simp only [upd_at]
    grind
  case tdraw =>
    clear cell0 cellz cb cf own inj isput istake pdraw pfin tfin pmono tmono val vinj pdone hold2 hold4 at4 at5 at6 nev tick tdone tblock
    simp only [TS.fin]
    try simp only [upd_at]
    grind
  case tfin =>
    clear cell0 cellz cb cf own inj isput istake pdraw pfin pmono tmono val vinj pdone hold2 hold4 at4 at5 at6 nev tick tdone tblock
    simp only [TS.fin]
    try simp only [upd_at]
    grind
  case pmono =>
    clear cell0 cellz cb cf own inj isput istake pdraw pfin tdraw tfin tmono val vinj pdone hold2 hold4 at4 at5 at6 nev tick tdone tblock
    simp only [TS.fin]
    try simp only [upd_at]
    grind
  case tmono =>
    clear cell0 cellz cb cf own inj isput istake pdraw pfin tdraw tfin pmono val vinj pdone hold2 hold4 at4 at5 at6 nev tick tdone tblock
    simp only [TS.fin]
    try simp only [upd_at]
    grind
  case val =>
    clear cell0 cellz cb cf inj isput istake pdraw pfin tdraw tfin pmono tmono vinj pdone hold2 hold4 at4 at5 at6 nev tick tdone tblock
    simp only [TS.fin]
    try simp only [upd_at]
    grind
  case vinj =>
    clear cell0 cellz cb cf own inj isput istake pdraw pfin tdraw tfin pmono tmono val pdone hold2 hold4 at4 at5 at6 nev tick tdone tblock
    simp only [TS.fin]
    try simp only [upd_at]
    grind
  case pdone =>
    clear cell0 cellz cb cf own inj isput istake pdraw pfin tdraw tfin pmono tmono val vinj hold2 hold4 at4 at5 at6 nev tick tdone tblock
    simp only [TS.fin]
    try simp only [upd_at]
    grind
  case hold2 =>
    clear cell0 cellz cb cf own inj isput istake pdraw pfin tdraw tfin pmono tmono val vinj pdone hold4 at4 at5 at6 nev tick tdone tblock
    simp only [TS.fin]
    try simp only [upd_at]
    grind
  case hold4 =>
    clear cell0 cellz cb cf own inj isput istake pdraw pfin tdraw tfin pmono tmono val vinj pdone hold2 at4 at5 at6 nev tick tdone tblock
    simp only [TS.fin]
    try simp only [upd_at]
    grind
  case at4 =>
    clear cell0 cellz cb cf own inj isput istake pdraw pfin tdraw tfin pmono tmono val vinj pdone hold2 hold4 at5 at6 nev tick tdone tblock
    simp only [TS.fin]
    try simp only [upd_at]
    grind
  case at5 =>
    clear cell0 cellz cb cf own inj isput istake pdraw pfin tdraw tfin pmono tmono val vinj pdone hold2 hold4 at4 at6 nev tick tdone tblock
    simp only [TS.fin]
    try simp only [upd_at]
    grind
  case at6 =>
    clear cell0 cellz cb cf own inj isput istake pdraw pfin tdraw tfin pmono tmono val vinj pdone hold2 hold4 at4 at5 nev tick tdone tblock
    simp only [TS.fin]
    try simp only [upd_at]
    grind
  case nev =>
    clear cell0 cellz cb cf own inj isput istake pdraw pfin tdraw tfin pmono tmono val vinj pdone hold2 hold4 at4 at5 at6 tick tdone tblock
    simp only [TS.fin]
    try simp only [upd_at]
    grind
  case tick =>
    clear cell0 cellz cb cf inj isput istake pdraw pfin tdraw tfin pmono tmono val vinj pdone hold2 hold4 at4 at5 at6 nev tdone tblock
    simp only [TS.fin]
    try simp only [upd_at]
    grind
  case tdone =>
    clear cell0 cellz cb cf inj isput istake pdraw pfin tdraw tfin pmono tmono vinj pdone hold2 hold4 at4 at5 at6 nev tick tblock
    simp only [TS.fin]
    try simp only [upd_at]
    grind
  case tblock =>
    clear cell0 cellz cb cf inj isput istake pdraw pfin tdraw tfin pmono tmono val vinj pdone hold2 at4 at5 nev tick tdone
    simp only [TS.fin]
    try simp only [upd_at]
    grind

set_option maxHeartbeats 4000000 in
theorem TInv.putOk (h : TInv sz s) (h2 : s.pc t = 2) (hc : s.cell (s.at_ t) = 0) (v : Int) : TInv sz ((s.put (s.at_ t) ((s.C (s.cur t)).value + 2)).fin t 0 v) := by
  obtain ⟨cell0, cellz, cb, cf, own, inj, isput, istake, pdraw, pfin, tdraw, tfin, pmono, tmono, val, vinj, pdone, hold2, hold4, at4, at5, at6, nev, tick, tdone, tblock⟩ := h
  constructor
  case cell0 =>
    clear cellz cb cf own inj istake pdraw pfin tdraw tfin pmono tmono val vinj pdone hold2 hold4 at4 at5 at6 nev tick tdone tblock
    simp only [TS.put, TS.fin]
    try simp only [upd_at]
    grind
  case cellz =>
    clear cell0 cb cf own inj isput istake pdraw pfin tdraw tfin pmono tmono val vinj pdone hold4 at4 at5 at6 nev tick tdone tblock
    simp only [TS.put, TS.fin]
    try simp only [upd_at]
    grind
  case cb =>
    clear cell0 cellz cf inj isput istake pdraw pfin tdraw tfin pmono tmono val vinj pdone hold2 hold4 at4 at5 at6 nev tick tdone tblock
    simp only [TS.put, TS.fin]
    try simp only [upd_at]
    grind
  case cf =>
    clear cell0 cellz inj isput istake pdraw pfin tdraw tfin pmono tmono val vinj pdone hold2 hold4 at4 at5 at6 nev tick tdone tblock
    simp only [TS.put, TS.fin]
    try simp only [upd_at]
    grind
  case own =>
    clear cell0 cellz cb cf isput istake pdraw pfin tdraw tfin pmono tmono val vinj pdone hold2 hold4 at4 at5 at6 nev tick tdone tblock
    simp only [TS.put, TS.fin]
    try simp only [upd_at]
    grind
  case inj =>
    clear cell0 cellz cb cf own isput istake pdraw pfin tdraw tfin pmono tmono val vinj pdone hold2 hold4 at4 at5 at6 nev tick tdone tblock
    simp only [TS.put, TS.fin]
    try simp only [upd_at]
    grind
  case isput =>
    clear cell0 cellz cb cf own istake pdraw pfin tdraw tfin pmono tmono val vinj pdone hold2 hold4 at4 at5 at6 nev tick tdone tblock
    simp only [TS.put, TS.fin]
    try simp only [upd_at]
    grind
  case istake =>
    clear cell0 cellz cb cf own isput pdraw pfin tdraw tfin pmono tmono val vinj pdone hold2 hold4 at4 at5 at6 nev tick tdone tblock
    simp only [TS.put, TS.fin]
    try simp only [upd_at]
    grind
  case pdraw =>
    clear cell0 cellz cb cf own inj isput istake pfin tdraw tfin pmono tmono val vinj pdone hold2 hold4 at4 at5 at6 nev tick tdone tblock
    simp only [TS.put, TS.fin]
    try simp only [upd_at]
    grind
  case pfin =>
    clear cell0 cellz cb cf own inj isput istake tdraw tfin pmono tmono val vinj pdone hold2 hold4 at4 at5 at6 nev tick tdone tblock
    simp only [TS.put, TS.fin]
    try simp only [upd_at]
    grind
  case tdraw =>
    clear cell0 cellz cb cf own inj isput istake pdraw pfin tfin pmono tmono val vinj pdone hold2 hold4 at4 at5 at6 nev tick tdone tblock
    simp only [TS.put, TS.fin]
    try simp only [upd_at]
    grind
  case tfin =>
    clear cell0 cellz cb cf own inj isput istake pdraw pfin pmono tmono val vinj pdone hold2 hold4 at4 at5 at6 nev tick tdone tblock
    simp only [TS.put, TS.fin]
    try simp only [upd_at]
    grind
  case pmono =>
    clear cell0 cellz cb cf own inj isput istake pdraw pfin tdraw tfin tmono val vinj pdone hold2 hold4 at4 at5 at6 nev tick tdone tblock
    simp only [TS.put, TS.fin]
    try simp only [upd_at]
    grind
  case tmono =>
    clear cell0 cellz cb cf own inj isput istake pdraw pfin tdraw tfin pmono val vinj pdone hold2 hold4 at4 at5 at6 nev tick tdone tblock
    simp only [TS.put, TS.fin]
    try simp only [upd_at]
    grind
  case val =>
    clear cell0 cellz cb cf inj istake pdraw pfin tdraw tfin pmono tmono vinj pdone hold4 at4 at5 at6 nev tick tdone tblock
    simp only [TS.put, TS.fin]
    try simp only [upd_at]
    grind
  case vinj =>
    clear cell0 cellz cb cf inj isput istake pdraw pfin tdraw tfin pmono tmono pdone hold4 at4 at5 at6 nev tick tdone tblock
    simp only [TS.put, TS.fin]
    try simp only [upd_at]
    grind
  case pdone =>
    clear cell0 cellz cb cf own inj istake pdraw pfin tdraw tfin pmono tmono val vinj hold4 at4 at5 at6 nev tick tdone tblock
    simp only [TS.put, TS.fin]
    try simp only [upd_at]
    grind
  case hold2 =>
    clear cell0 cellz cb cf own inj isput istake pdraw pfin tdraw tfin pmono tmono val vinj pdone hold4 at4 at5 at6 nev tick tdone tblock
    simp only [TS.put, TS.fin]
    try simp only [upd_at]
    grind
  case hold4 =>
    clear cell0 cellz cb cf own inj isput istake pdraw pfin tdraw tfin pmono tmono val vinj pdone hold2 at4 at5 at6 nev tick tdone tblock
    simp only [TS.put, TS.fin]
    try simp only [upd_at]
    grind
  case at4 =>
    clear cell0 cellz cb cf own inj istake pdraw pfin tdraw tfin pmono tmono val vinj pdone hold2 hold4 at5 at6 nev tick tdone tblock
    simp only [TS.put, TS.fin]
    try simp only [upd_at]
    grind
  case at5 =>
    clear cell0 cellz cb cf own inj istake pdraw pfin tdraw tfin pmono tmono val vinj pdone hold2 hold4 at4 at6 nev tick tdone tblock
    simp only [TS.put, TS.fin]
    try simp only [upd_at]
    grind
  case at6 =>
    clear cell0 cellz cb cf own inj isput istake pdraw pfin tdraw tfin pmono tmono val vinj pdone hold2 hold4 at4 at5 nev tick tdone tblock
    simp only [TS.put, TS.fin]
    try simp only [upd_at]
    grind
  case nev =>
    clear cell0 cellz cb cf own inj istake pdraw pfin tdraw tfin pmono tmono val vinj pdone hold2 hold4 at4 at5 at6 tick tdone tblock
    simp only [TS.put, TS.fin]
    try simp only [upd_at]
    grind
  case tick =>
    clear cell0 cellz cb cf inj istake pdraw pfin tfin pmono tmono val vinj pdone hold2 hold4 at4 at5 at6 nev tdone tblock
    simp only [TS.put, TS.fin]
    try simp only [upd_at]
    grind
  case tdone =>
    clear cell0 cellz cb cf inj istake pdraw pfin tdraw tfin pmono tmono vinj pdone hold2 hold4 at4 at5 at6 nev tick tblock
    simp only [TS.put, TS.fin]
    try simp only [upd_at]
    grind
  case tblock =>
    clear cell0 cellz cb cf inj istake pdraw pfin tdraw tfin pmono tmono val vinj pdone hold2 hold4 at4 at5 at6 nev tick tdone
    simp only [TS.put, TS.fin]
    try simp only [upd_at]
    grind

end Go.Proofs.YtieglgahfeecbaaGreatDoor
