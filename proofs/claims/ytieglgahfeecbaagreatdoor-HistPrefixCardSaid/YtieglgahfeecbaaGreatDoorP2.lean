/- Accesses set in a row that is owned. -/
import Derived.ProofKit
import Derived.Laws.ResultCell
import Derived.Laws.Rows
import Derived.Test.YtieglgahfeecbaaGreatDoorP1
set_option maxHeartbeats 64000000
set_option maxRecDepth 100000
namespace Go.Proofs.YtieglgahfeecbaaGreatDoor
open Go.RowKit Go.Sort
attribute [local go_sem ↓] Go.wp_at_zero Go.wp_at_succ
def goodR (r : Resr) : Bool := inB r.value 0 4294967295 && inB r.code 0 255 && inB r.case_ 0 15 && inB r.seq 0 1048575
def mayC (c : Cse) : Bool := (c.dir == 1 || c.dir == 2) && inB c.handle 0 65535 && inB c.value 0 4294967295
def fitsQ (q : ReqP) : Bool := inB q.kind 1 9 && inB q.arg 0 65535 && inB q.value 0 4294967295 && decide (q.cs.length <= 3) && q.cs.all mayC
def valuesB (l : List Int) (most : Int) : Bool := decide ((l.length : Int) <= most) && l.all fun x => inB x 0 4294967295
def dnsB (l : List Resr) (threads : Int) : Bool := decide ((l.length : Int) = threads) && l.all goodR
def chanB (cap : Int) (x : ChP) : Bool := inB x.gen 0 4095 && inB x.cap 0 cap && valuesB x.buf x.cap && (x.used || (!x.closed && decide (x.cap = 0)))
def waitB (w : WtP) : Bool :=
 if w.on = true then inB w.ticket 0 4294967295 && inB w.seq 0 1048575 && inB w.cs.length 1 3 && w.cs.all mayC
 else decide (w.ticket = 0) && decide (w.seq = 0) && decide (w.cs.length = 0)
def fitsH (c : Cfg) (h : HallP) : Bool :=
 chkB c && decide (c.kind = 3) && inB h.ticket 0 4294967295 && decide ((h.chans.length : Int) = c.chans) && decide ((h.waits.length : Int) = c.threads) && dnsB h.done c.threads && h.chans.all (chanB c.cap) && h.waits.all waitB
structure CellsP where
 (cap : Int)
 (list : List Int)
 (done : List Resr)
def fitsC (c : Cfg) (x : CellsP) : Bool := chkB c && !decide (c.kind = 3) && decide (x.cap = c.cap) && valuesB x.list c.cap && dnsB x.done c.threads
def bitI (b : Bool) : Int := if b = true then 1 else 0
def resI (r : Resr) : Int := if goodR r = true then r.seq * 17592186044416 + r.case_ * 1099511627776 + r.code * 4294967296 + r.value else 0
def headI (x : ChP) : Int := x.gen + 4096 * x.cap + 65536 * bitI x.used + 131072 * bitI x.closed + 1048576 * x.buf.length
def rowI (l : List Int) (n : Nat) : List Int := (List.range n).map fun i => if i < l.length then l.getD i 0 else 0
def chanI (cap : Int) (x : ChP) : List Int := headI x :: rowI x.buf cap.toNat
def caseI (k : Cse) : Int := k.dir + 256 * k.handle + 4294967296 * k.value
def wHeadI (w : WtP) : Int := bitI w.on + 2 * w.cs.length + 16 * w.seq + 4294967296 * w.ticket
def waitI (w : WtP) : List Int := wHeadI w :: rowI (w.cs.map caseI) 3
def hallI (cap : Int) (h : HallP) : List Int := [h.ticket] ++ h.chans.flatMap (chanI cap) ++ h.waits.flatMap waitI ++ h.done.map resI
def putH (c : Cfg) (h : HallP) : List Int := if fitsH c h = true then hallI c.cap h else []
def cellsI (cap : Int) (x : CellsP) : List Int := [(x.list.length : Int)] ++ rowI x.list cap.toNat ++ x.done.map resI
def putC (c : Cfg) (x : CellsP) : List Int := if fitsC c x = true then cellsI c.cap x else []
def rrI (u : Int) : Resr := ⟨u / 17592186044416, u / 1099511627776 % 16, u / 4294967296 % 256, u % 4294967296⟩
def rowR (some : Int) (n : Nat) (l : List Int) : List Int := ((List.range n).filter fun i : Nat => decide ((i : Int) < some)).map fun i : Nat => l.getD i 0 % 4294967296
def chanR (cap : Nat) (l : List Int) : ChP :=
 let h := l.getD 0 0
 ⟨h % 4096, h / 4096 % 16, h / 65536 % 2 == 1, h / 131072 % 2 == 1, rowR (h / 1048576 % 16) cap (l.drop 1)⟩
def caseR (k : Int) : Cse := ⟨k % 256, k / 256 % 65536, k / 4294967296⟩
def waitR (l : List Int) : WtP :=
 let h := l.getD 0 0
 ⟨h % 2 == 1, h / 4294967296, h / 16 % 1048576, ((List.range 3).filter fun i : Nat => decide ((i : Int) < h / 2 % 8)).map fun i : Nat => caseR (l.getD (1 + i) 0)⟩
def resR (n : Nat) (l : List Int) : List Resr := (List.range n).map fun i => rrI (l.getD i 0)
def hallR (c : Cfg) (l : List Int) : HallP :=
 let p := 1 + c.chans.toNat * (1 + c.cap.toNat)
 ⟨l.getD 0 0 % 4294967296, (List.range c.chans.toNat).map fun i => chanR c.cap.toNat (l.drop (1 + i * (1 + c.cap.toNat))),
  (List.range c.threads.toNat).map fun i => waitR (l.drop (p + i * 4)), resR c.threads.toNat (l.drop (p + c.threads.toNat * 4))⟩
def readH (c : Cfg) (l : List Int) : Option HallP :=
 if chkB c = true /\ c.kind = 3 /\ (l.length : Int) = sizeS c /\ putH c (hallR c l) = l then some (hallR c l) else .none
def cellsR (c : Cfg) (l : List Int) : CellsP :=
 ⟨c.cap, rowR (min (l.getD 0 0) 17) c.cap.toNat (l.drop 1), resR c.threads.toNat (l.drop (1 + c.cap.toNat))⟩
def readC (c : Cfg) (l : List Int) : Option CellsP :=
 if chkB c = true /\ ¬ c.kind = 3 /\ (l.length : Int) = sizeS c /\ putC c (cellsR c l) = l then some (cellsR c l) else .none
def stpC (last : Bool) (cap : Int) (l : List Int) (q : ReqP) : List Int × Int × Int :=
 if q.kind = 8 then (if (l.length : Int) < cap then (l ++ [q.value], 0, 0) else (l, 10, 0))
 else if q.kind = 9 then (if l.length = 0 then (l, 10, 0) else if last = true then (l.take (l.length - 1), 0, l.getD (l.length - 1) 0) else (l.drop 1, 0, l.getD 0 0))
 else if q.kind = 5 then (l, 0, (l.length : Int))
 else if q.kind = 6 then (l, 0, cap)
 else (l, 1, 0)
def setR (d : List Resr) (t : Int) (r : Resr) : List Resr := if inL d.length t then d.set t.toNat r else d
def applyC (last : Bool) (x : CellsP) (t seq : Int) (q : ReqP) : CellsP :=
 ⟨x.cap, (stpC last x.cap x.list q).1, setR x.done t ⟨seq, 0, (stpC last x.cap x.list q).2.1, (stpC last x.cap x.list q).2.2⟩⟩
def clampI (n most : Int) : Nat := (max (min n most) 0).toNat
def startH (c : Cfg) : HallP :=
 ⟨0, (List.range (clampI c.chans 8)).map fun i => if i < c.start.length then ⟨1, c.start.getD i 0, true, false, []⟩ else ChP.none,
  List.replicate (clampI c.threads 64) WtP.none, List.replicate (clampI c.threads 64) Resr.none⟩
def startO (c : Cfg) : List Int :=
 if chkB c = true then (if c.kind = 3 then putH c (startH c) else putC c ⟨c.cap, [], List.replicate (clampI c.threads 64) Resr.none⟩) else []
def applyO (c : Cfg) (l : List Int) (t seq : Int) (q : ReqP) : List Int :=
 if t < 0 ∨ c.threads <= t ∨ seq < 0 ∨ 1048575 < seq ∨ fitsQ q = false then l
 else if c.kind = 3 then (match readH c l with | some h => putH c (applyH c.gens c.cap h t seq q) | .none => l)
 else (match readC c l with | some x => putC c (applyC (decide (c.kind = 2)) x t seq q) | .none => l)
def doneO (c : Cfg) (l : List Int) (t : Int) : Int :=
 if t < 0 ∨ c.threads <= t ∨ chkB c = false ∨ (l.length : Int) <= stateS c + t then 0 else l.getD (stateS c + t).toNat 0
structure NtP where
 (kind thread seq : Int)
 (req : ReqP)
 (res : Resr)
def ReqP.none : ReqP := ⟨0, 0, 0, false, []⟩
def NtP.none : NtP := ⟨0, 0, 0, ReqP.none, Resr.none⟩
structure KnP where
 (on : Bool)
 (seq last : Int)
def KnP.none : KnP := ⟨false, 0, 0⟩
def followsB (x : KnP) (n : NtP) : Bool :=
 if n.kind = 1 then !x.on && (decide (n.seq = 0) || decide (x.last < n.seq)) && fitsQ n.req
 else if n.kind = 2 ∨ n.kind = 3 then x.on && decide (n.seq = x.seq) else false
def stepK (x : KnP) (n : NtP) : KnP :=
 if n.kind = 1 then ⟨true, n.seq, max x.last n.seq⟩ else if n.kind = 3 then ⟨false, x.seq, x.last⟩ else x
def noteOk (l : List KnP) (n : NtP) : Bool :=
 decide (inL l.length n.thread) && inB n.seq 0 1048575 && followsB (l.getD n.thread.toNat KnP.none) n
def nextK (l : List KnP) (n : NtP) : List KnP := l.set n.thread.toNat (stepK (l.getD n.thread.toNat KnP.none) n)
def knowK (threads : Nat) (ns : List NtP) : Nat -> Option (List KnP)
 | 0 => some (List.replicate threads KnP.none)
 | k + 1 => match knowK threads ns k with
   | some l => if noteOk l (ns.getD k NtP.none) = true then some (nextK l (ns.getD k NtP.none)) else .none
   | .none => .none
def callsK (ns : List NtP) : Nat -> Nat
 | 0 => 0
 | k + 1 => callsK ns k + (if (ns.getD k NtP.none).kind = 1 then 1 else 0)
def checkS (c : Cfg) (ns : List NtP) : Int :=
 if chkB c = false then 1
 else match knowK c.threads.toNat ns ns.length with
  | .none => 3
  | some _ => if 8 < callsK ns ns.length then 4 else 0
structure OpP where
 (on applied : Bool)
 (seq : Int)
 (req : ReqP)
def OpP.none : OpP := ⟨false, false, 0, ReqP.none⟩
structure StP where
 (at_ : Nat)
 (rec_ : List Int)
 (l : List OpP)
def noneB (n : NtP) : Bool := decide (n.kind = 3) && (decide (n.res.code = 6) || decide (n.res.code = 7))
def sameR (a b : Resr) : Bool := decide (a.seq = b.seq) && decide (a.case_ = b.case_) && decide (a.code = b.code) && decide (a.value = b.value)
def tellsB (c : Cfg) (rec_ : List Int) (n : NtP) : Bool :=
 let r := rrI (doneO c rec_ n.thread)
 decide (r.seq = n.seq) && (decide (n.kind = 2) || sameR r n.res)
def effK (c : Cfg) (s : StP) : Nat -> List StP
 | 0 => []
 | k + 1 =>
   let y := s.l.getD k OpP.none
   effK c s k ++ (if y.on = true /\ y.applied = false /\ 0 < y.seq then [⟨s.at_, applyO c s.rec_ k y.seq y.req, s.l.set k ⟨y.on, true, y.seq, y.req⟩⟩] else [])
def waysS (c : Cfg) (ns : List NtP) (s : StP) : List StP :=
 let n := ns.getD s.at_ NtP.none
 let x := s.l.getD n.thread.toNat OpP.none
 if n.kind = 1 then [⟨s.at_ + 1, s.rec_, s.l.set n.thread.toNat ⟨true, false, n.seq, n.req⟩⟩]
 else if x.applied = true /\ tellsB c s.rec_ n = true then [⟨s.at_ + 1, s.rec_, s.l.set n.thread.toNat ⟨decide (n.kind = 2), true, x.seq, x.req⟩⟩]
 else (if noneB n = true /\ x.applied = false then [⟨s.at_ + 1, s.rec_, s.l.set n.thread.toNat ⟨false, false, x.seq, ReqP.none⟩⟩] else []) ++ effK c s s.l.length
inductive Expl (c : Cfg) (ns : List NtP) : StP -> Prop
 | done (s : StP) : s.at_ = ns.length -> Expl c ns s
 | way (s s' : StP) : s.at_ < ns.length -> s' ∈ waysS c ns s -> Expl c ns s' -> Expl c ns s
def legalB (c : Cfg) (ns : List NtP) : Prop := Expl c ns ⟨0, startO c, List.replicate c.threads.toNat OpP.none⟩
theorem take_getD {l : List NtP} {m k : Nat} (h : k < m) : (l.take m).getD k NtP.none = l.getD k NtP.none := by
 simp [List.getD, h]
theorem effK_at (c : Cfg) (s : StP) : ∀ (k : Nat) (s' : StP), s' ∈ effK c s k -> s'.at_ = s.at_
 | 0, s', h => by simp [effK] at h
 | k + 1, s', h => by
   simp only [effK, List.mem_append] at h
   rcases h with h | h
   . exact effK_at c s k s' h
   . split at h
     . simp only [List.mem_singleton] at h; rw [h]
     . cases h
theorem waysS_at {c : Cfg} {ns : List NtP} {s s' : StP} (h : s' ∈ waysS c ns s) : s'.at_ <= s.at_ + 1 := by
 unfold waysS at h
 simp only at h
 split at h
 . simp only [List.mem_singleton] at h; rw [h]; exact Nat.le_refl _
 . split at h
   . simp only [List.mem_singleton] at h; rw [h]; exact Nat.le_refl _
   . rcases List.mem_append.1 h with h | h
     . split at h
       . simp only [List.mem_singleton] at h; rw [h]; exact Nat.le_refl _
       . cases h
     . rw [effK_at c s _ s' h]; omega
theorem expl_take {c : Cfg} {ns : List NtP} {m : Nat} (hm : m <= ns.length) {s : StP} (h : Expl c ns s) : s.at_ <= m -> Expl c (ns.take m) s := by
 induction h with
 | done s h =>
   intro hs
   exact .done s (by rw [List.length_take]; omega)
 | way s s' hlt hw _ ih =>
   intro hs
   by_cases he : s.at_ = m
   . exact .done s (by rw [List.length_take]; omega)
   . have e : waysS c (ns.take m) s = waysS c ns s := by
      unfold waysS
      rw [take_getD (by omega)]
     have h1 := waysS_at hw
     exact .way s s' (by rw [List.length_take]; omega) (by rw [e]; exact hw) (ih (by omega))
theorem knowK_take {threads : Nat} {ns : List NtP} {m : Nat} : ∀ k, k <= m -> knowK threads (ns.take m) k = knowK threads ns k
 | 0, _ => rfl
 | k + 1, h => by
   simp only [knowK]
   rw [knowK_take k (by omega), take_getD (by omega)]
theorem callsK_take {ns : List NtP} {m : Nat} : ∀ k, k <= m -> callsK (ns.take m) k = callsK ns k
 | 0, _ => rfl
 | k + 1, h => by
   simp only [callsK]
   rw [callsK_take k (by omega), take_getD (by omega)]
theorem knowK_some {threads : Nat} {ns : List NtP} : ∀ d k, ∀ l, knowK threads ns (k + d) = some l -> ∃ l', knowK threads ns k = some l'
 | 0, k, l, h => ⟨l, h⟩
 | d + 1, k, l, h => by
   have e : k + (d + 1) = (k + d) + 1 := by omega
   rw [e, knowK] at h
   cases h2 : knowK threads ns (k + d) with
   | none => rw [h2] at h; cases h
   | some l2 => exact knowK_some d k l2 h2
theorem callsK_mono {ns : List NtP} : ∀ d k, callsK ns k <= callsK ns (k + d)
 | 0, _ => Nat.le_refl _
 | d + 1, k => by
   have := callsK_mono (ns := ns) d k
   have e : k + (d + 1) = (k + d) + 1 := by omega
   rw [e, callsK]; omega
theorem checkS_ok {c : Cfg} {ns : List NtP} (h : checkS c ns = 0) : chkB c = true /\ (∃ l, knowK c.threads.toNat ns ns.length = some l) /\ callsK ns ns.length <= 8 := by
 unfold checkS at h
 split at h
 . omega
 . rename_i h1
   cases h2 : knowK c.threads.toNat ns ns.length with
   | none => rw [h2] at h; simp at h
   | some l =>
     rw [h2] at h
     simp only at h
     split at h
     . omega
     . exact ⟨by simpa using h1, ⟨l, rfl⟩, by omega⟩
theorem check_take {c : Cfg} {ns : List NtP} {m : Nat} (hm : m <= ns.length) (h : checkS c ns = 0) : checkS c (ns.take m) = 0 := by
 obtain ⟨h1, ⟨l, h2⟩, h3⟩ := checkS_ok h
 have e : (ns.take m).length = m := by rw [List.length_take]; omega
 obtain ⟨l', h4⟩ := knowK_some (threads := c.threads.toNat) (ns := ns) (ns.length - m) m l (by rw [show m + (ns.length - m) = ns.length by omega]; exact h2)
 have h5 := callsK_mono (ns := ns) (ns.length - m) m
 rw [show m + (ns.length - m) = ns.length by omega] at h5
 unfold checkS
 rw [e, knowK_take m (Nat.le_refl _), callsK_take m (Nat.le_refl _), h4]
 simp only [h1]
 rw [if_neg (by simp), if_neg (by omega)]
def explD (c : Cfg) (ns : List NtP) : Nat -> StP -> Bool
 | 0, s => Nat.beq s.at_ ns.length
 | f + 1, s => if Nat.beq s.at_ ns.length then true else if Nat.blt s.at_ ns.length then (waysS c ns s).any (explD c ns f) else false
def explU (c : Cfg) (ns : List NtP) : Nat -> StP -> Bool
 | 0, _ => true
 | f + 1, s => if Nat.beq s.at_ ns.length then true else (waysS c ns s).any (explU c ns f)
theorem explD_ok {c : Cfg} {ns : List NtP} : ∀ (f : Nat) (s : StP), explD c ns f s = true -> Expl c ns s
 | 0, s, h => .done s (Nat.eq_of_beq_eq_true h)
 | f + 1, s, h => by
   unfold explD at h
   split at h
   . rename_i h1; exact .done s (Nat.eq_of_beq_eq_true h1)
   . split at h
     . rename_i h1
       rw [List.any_eq_true] at h
       obtain ⟨s', h2, h3⟩ := h
       exact .way s s' (Nat.lt_of_succ_le (by simpa [Nat.blt] using h1)) h2 (explD_ok f s' h3)
     . cases h
theorem explU_ok {c : Cfg} {ns : List NtP} {s : StP} (h : Expl c ns s) : ∀ f, explU c ns f s = true := by
 induction h with
 | done s h =>
   intro f
   cases f
   . rfl
   . unfold explU; rw [if_pos (by rw [h]; exact Nat.beq_refl _)]
 | way s s' hlt hm _ ih =>
   intro f
   cases f with
   | zero => rfl
   | succ f =>
     unfold explU
     split
     . rfl
     . rw [List.any_eq_true]
       exact ⟨s', hm, ih f⟩
def cfg22 : Cfg := ⟨1, 2, 0, 2, 3, 2, 1, 99, 99, 0, [], none, 0⟩
def put22 : ReqP := ⟨8, 0, 7, false, []⟩
def take22 : ReqP := ⟨9, 0, 0, false, []⟩
def nts22 (v : Int) : List NtP := [⟨1, 0, 1, put22, ⟨0, 0, 0, 0⟩⟩, ⟨1, 1, 1, take22, ⟨0, 0, 0, 0⟩⟩, ⟨3, 1, 1, take22, ⟨1, 0, 0, v⟩⟩, ⟨3, 0, 1, put22, ⟨1, 0, 0, 0⟩⟩]
theorem chk22 : chkB cfg22 = true := by kernel_rfl
theorem check22_7 : checkS cfg22 (nts22 7) = 0 := by kernel_rfl
theorem check22_8 : checkS cfg22 (nts22 8) = 0 := by kernel_rfl
theorem check22_d : checkS cfg22 ((nts22 8).drop 2) = 3 := by kernel_rfl
theorem legal22_7 : legalB cfg22 (nts22 7) := explD_ok 8 _ (by kernel_rfl)
theorem legal22_8 : ¬ legalB cfg22 (nts22 8) := fun h => by
 have h1 := explU_ok h 8
 have h2 : explU cfg22 (nts22 8) 8 ⟨0, startO cfg22, List.replicate cfg22.threads.toNat OpP.none⟩ = false := by kernel_rfl
 rw [h2] at h1
 cases h1
structure FitH (c : Cfg) (h : HallP) : Prop where
 tick : 0 <= h.ticket /\ h.ticket <= 4294967295
 nch : (h.chans.length : Int) = c.chans
 nwt : (h.waits.length : Int) = c.threads
 ndn : (h.done.length : Int) = c.threads
 dn : ∀ r ∈ h.done, goodR r = true
 ch : ∀ x ∈ h.chans, chanB c.cap x = true
 wt : ∀ w ∈ h.waits, waitB w = true
theorem fitsH_iff {c : Cfg} {h : HallP} (hc : chkB c = true) (hk : c.kind = 3) : fitsH c h = true ↔ FitH c h := by
 unfold fitsH dnsB
 simp only [hc, hk, Bool.true_and, decide_true, Bool.and_eq_true, decide_eq_true_eq, List.all_eq_true, inB]
 constructor
 . rintro ⟨⟨⟨⟨⟨h1, h2⟩, h3⟩, h4, h5⟩, h6⟩, h7⟩
   exact ⟨h1, h2, h3, h4, h5, h6, h7⟩
 . rintro ⟨h1, h2, h3, h4, h5, h6, h7⟩
   exact ⟨⟨⟨⟨⟨h1, h2⟩, h3⟩, h4, h5⟩, h6⟩, h7⟩
theorem mem_set_or {α : Type} {l : List α} {k : Nat} {y x : α} (h : x ∈ l.set k y) : x ∈ l ∨ x = y := by
 rcases List.mem_or_eq_of_mem_set h with h | h
 . exact .inl h
 . exact .inr h
theorem goodR_code (code : Int) (h : inB code 0 255 = true) : goodR (rC code) = true := by
 show goodR ⟨0, 0, code, 0⟩ = true
 simp only [goodR, inB, Bool.and_eq_true, decide_eq_true_eq] at *
 refine ⟨⟨⟨⟨?_, ?_⟩, ?_, ?_⟩, ?_, ?_⟩, ?_, ?_⟩ <;> omega
theorem waitB_none : waitB WtP.none = true := by simp [waitB, WtP.none]
theorem getD_mem {α : Type} {l : List α} {k : Nat} {d : α} (h : k < l.length) : l.getD k d ∈ l := by simp [List.getD, h]
structure GotOk (cap : Int) (n : Nat) (g : GotP) : Prop where
 c : chanB cap g.c = true
 l : ∀ w ∈ g.l, waitB w = true
 len : g.l.length = n
 r : goodR ⟨0, 0, g.r.code, g.r.value⟩ = true
 seq : g.r.seq = 0
 told : ∀ x ∈ g.told, goodR x.2 = true
theorem chanB_buf {cap : Int} {c : ChP} (h : chanB cap c = true) (b : List Int) (hb : ∀ x ∈ b, inB x 0 4294967295 = true) (hl : (b.length : Int) <= c.cap) : chanB cap ⟨c.gen, c.cap, c.used, c.closed, b⟩ = true := by
 unfold chanB valuesB at *
 simp only [Bool.and_eq_true, List.all_eq_true, decide_eq_true_eq] at *
 exact ⟨⟨h.1.1, hl, hb⟩, h.2⟩
theorem chanB_vals {cap : Int} {c : ChP} (h : chanB cap c = true) : (∀ x ∈ c.buf, inB x 0 4294967295 = true) /\ (c.buf.length : Int) <= c.cap := by
 unfold chanB valuesB at h
 simp only [Bool.and_eq_true, List.all_eq_true, decide_eq_true_eq] at h
 exact ⟨h.1.2.2, h.1.2.1⟩
theorem wait_case {w : WtP} (h : waitB w = true) (hon : w.on = true) : (∀ k ∈ w.cs, mayC k = true) /\ inB w.seq 0 1048575 = true /\ inB w.cs.length 1 3 = true := by
 unfold waitB at h
 rw [if_pos hon] at h
 simp only [Bool.and_eq_true, List.all_eq_true] at h
 exact ⟨h.2, h.1.1.2, h.1.2⟩
theorem placeS_on {w : WtP} {dir handle : Int} (h : 0 <= placeS w dir handle) : w.on = true /\ placeS w dir handle < w.cs.length := by
 unfold placeS at *
 split at h
 . rename_i hon
   rw [if_pos hon]
   have := firstV_rng (p := isC dir handle) w.cs 0
   exact ⟨hon, by simpa using this⟩
 . omega
theorem ended_good {l : List WtP} (hl : ∀ w ∈ l, waitB w = true) {t : Nat} (ht : t < l.length) (hon : (l.getD t WtP.none).on = true) {i code v : Int} (hi : inB i 0 15 = true) (hc : inB code 0 255 = true) (hv : inB v 0 4294967295 = true) :
  goodR (endedS l t i code v).2 = true := by
 have h := wait_case (hl _ (getD_mem ht)) hon
 simp only [endedS, goodR, Int.toNat_natCast, hi, hc, hv, h.2.1, Bool.and_self]
theorem do_ok {cap : Int} {c : ChP} {handle : Int} {l : List WtP} {dir value : Int} (hc : chanB cap c = true) (hl : ∀ w ∈ l, waitB w = true) (hv : inB value 0 4294967295 = true) : GotOk cap l.length (doS c handle l dir value) := by
 have hb := chanB_vals hc
 have hr : ∀ n : Int, inB n 0 255 = true -> goodR ⟨0, 0, n, 0⟩ = true := fun n h => goodR_code n h
 have hset : ∀ (t : Nat), ∀ w ∈ l.set t WtP.none, waitB w = true := fun t w hw => by
  rcases mem_set_or hw with h | rfl
  . exact hl w h
  . exact waitB_none
 have hfst : ∀ dir t i, firstS l dir handle = some (t, i) -> t < l.length /\ (l.getD t WtP.none).on = true /\ inB i 0 15 = true /\ i.toNat < (l.getD t WtP.none).cs.length := fun dir t i h => by
  have h1 := firstK_lt l dir handle _ t i h
  have h2 := placeS_on (w := l.getD t WtP.none) (dir := dir) (handle := handle) (by omega)
  have h3 := wait_case (hl _ (getD_mem h1.1)) h2.1
  have h4 := h3.2.2
  simp only [inB, Bool.and_eq_true, decide_eq_true_eq] at h4 ⊢
  exact ⟨h1.1, h2.1, by omega, by omega⟩
 unfold doS
 split
 . exact ⟨hc, hl, rfl, hr 10 (by decide), rfl, by simp⟩
 . rename_i hrd
   split
   . rename_i hd
     unfold sendS
     cases hf : firstS l 2 handle with
     | some p =>
       obtain ⟨t, i⟩ := p
       obtain ⟨h1, h2, h3, h4⟩ := hfst 2 t i hf
       refine ⟨hc, hset t, by simp, hr 0 (by decide), rfl, fun x hx => ?_⟩
       simp only [List.mem_singleton] at hx
       subst hx
       exact ended_good hl h1 h2 h3 (by decide) hv
     | none =>
       refine ⟨chanB_buf hc _ (fun x hx => ?_) ?_, hl, rfl, hr 0 (by decide), rfl, by simp⟩
       . rcases List.mem_append.1 hx with h | h
         . exact hb.1 x h
         . simp only [List.mem_singleton] at h; rw [h]; exact hv
       . simp only [Bool.not_eq_false] at hrd
         unfold readyS at hrd
         rw [if_pos hd.1, hf, hd.2] at hrd
         simp at hrd
         simp; omega
   . split
     . rename_i hd
       unfold recvS
       cases hf : firstS l 1 handle with
       | none =>
         simp only [hf, Option.isSome_none, Bool.false_eq_true, or_false] at hd
         refine ⟨chanB_buf hc _ (fun x hx => hb.1 x (List.mem_of_mem_drop hx)) (by simp; omega), hl, rfl, ?_, rfl, by simp⟩
         have := hb.1 _ (getD_mem (d := 0) hd.2)
         simp only [goodR, inB, Bool.and_eq_true, decide_eq_true_eq] at this ⊢
         omega
       | some p =>
         obtain ⟨t, i⟩ := p
         obtain ⟨h1, h2, h3, h4⟩ := hfst 1 t i hf
         have hcv : inB (caseV l t i) 0 4294967295 = true := by
          have h5 := (wait_case (hl _ (getD_mem h1)) h2).1 _ (getD_mem (d := Cse.none) h4)
          unfold mayC at h5
          simp only [Bool.and_eq_true] at h5
          exact h5.2
         have hvs : ∀ x ∈ c.buf ++ [caseV l t i], inB x 0 4294967295 = true := fun x hx => by
          rcases List.mem_append.1 hx with h | h
          . exact hb.1 x h
          . simp only [List.mem_singleton] at h; rw [h]; exact hcv
         refine ⟨chanB_buf hc _ (fun x hx => hvs x (List.mem_of_mem_drop hx)) (by simp; omega), hset t, by simp, ?_, rfl, fun x hx => ?_⟩
         . have := hvs _ (getD_mem (k := 0) (d := 0) (by simp))
           simp only [goodR, inB, Bool.and_eq_true, decide_eq_true_eq] at this ⊢
           omega
         . simp only [List.mem_singleton] at hx
           subst hx
           exact ended_good hl h1 h2 h3 (by decide) (by decide)
     . exact ⟨hc, hl, rfl, hr 9 (by decide), rfl, by simp⟩
theorem tell_good : ∀ (l : List TldP) (d : List Resr), (∀ r ∈ d, goodR r = true) -> (∀ x ∈ l, goodR x.2 = true) -> ∀ r ∈ tellS d l, goodR r = true
 | [], d, hd, _ => hd
 | x :: r, d, hd, hx => by
   rw [tellS]
   refine tell_good r _ (fun y hy => ?_) (fun y hy => hx y (List.mem_cons_of_mem _ hy))
   split at hy
   . rcases mem_set_or hy with h | rfl
     . exact hd y h
     . exact hx x (List.mem_cons_self ..)
   . exact hd y hy
theorem roomK_some {gens : Int} : ∀ (l : List ChP) (k j : Nat), roomK gens l k = some j -> k <= j /\ j < k + l.length /\ (l.getD (j - k) ChP.none).used = false /\ (l.getD (j - k) ChP.none).gen < min gens 4095
 | [], k, j, h => by simp [roomK] at h
 | c :: r, k, j, h => by
   simp only [roomK] at h
   split at h
   . have := roomK_some r (k + 1) j h
     have e : j - k = (j - (k + 1)) + 1 := by omega
     rw [e]; simp; refine ⟨by omega, by omega, by simpa using this.2.2.1, by have := this.2.2.2; simp at this; omega⟩
   . split at h
     . have := roomK_some r (k + 1) j h
       have e : j - k = (j - (k + 1)) + 1 := by omega
       rw [e]; simp; refine ⟨by omega, by omega, by simpa using this.2.2.1, by have := this.2.2.2; simp at this; omega⟩
     . rename_i h1 h2
       simp only [Option.some.injEq] at h
       subst h
       simp at *
       exact ⟨h1, by omega⟩
theorem findB_lt {l : List ChP} {h : Int} (hf : findB l h = true) : findP h < l.length := by
 unfold findB plcOk at hf
 simp only [Bool.and_eq_true, decide_eq_true_eq] at hf
 unfold findP
 omega
structure StpOk (c : Cfg) (x : HallP × Resr) : Prop where
 h : FitH c x.1
 r : goodR ⟨0, x.2.case_, x.2.code, x.2.value⟩ = true
theorem FitH.setC {c : Cfg} {h : HallP} (hf : FitH c h) (k : Nat) (x : ChP) (hx : chanB c.cap x = true) : FitH c { h with chans := h.chans.set k x } :=
 ⟨hf.tick, by simpa using hf.nch, hf.nwt, hf.ndn, hf.dn, fun y hy => by
  rcases mem_set_or hy with h' | rfl
  . exact hf.ch y h'
  . exact hx, hf.wt⟩
theorem rv_good {v : Int} (h : inB v 0 4294967295 = true) : goodR (rV v) = true := by
 show goodR ⟨0, 0, 0, v⟩ = true
 simp only [goodR, inB, Bool.and_eq_true, decide_eq_true_eq] at h ⊢
 refine ⟨⟨⟨⟨?_, ?_⟩, ?_, ?_⟩, ?_, ?_⟩, ?_, ?_⟩ <;> omega
theorem handP_in (p g : Int) : inB (handP p g) 0 4294967295 = true := by
 have h : 0 <= handP p g /\ handP p g <= 4294967295 := by
  unfold handP
  split <;> omega
 simp only [inB, Bool.and_eq_true, decide_eq_true_eq]
 exact h
theorem pickK_some {h : HallP} : ∀ (l : List Cse) (i j : Nat) (k : Cse), pickK h l i = some (j, k) -> k ∈ l /\ j < i + l.length
 | [], i, j, k, e => by simp [pickK] at e
 | x :: r, i, j, k, e => by
   simp only [pickK] at e
   split at e
   . simp only [Option.some.injEq, Prod.mk.injEq] at e
     obtain ⟨rfl, rfl⟩ := e
     exact ⟨List.mem_cons_self .., by simp⟩
   . have := pickK_some r (i + 1) j k e
     exact ⟨List.mem_cons_of_mem _ this.1, by simp; omega⟩
theorem call_ok {c : Cfg} {h : HallP} {t seq : Int} {q : ReqP} (hc : chkB c = true) (hk : c.kind = 3) (hf : FitH c h) (hs : inB seq 0 1048575 = true) (hq : fitsQ q = true) : StpOk c (callH c.gens c.cap h t seq q) := by
 have hk8 : 0 <= c.cap /\ c.cap <= 8 /\ 0 <= c.chans /\ c.chans <= 8 /\ 1 <= c.gens /\ c.gens <= 4095 := by
  simp [chkB, ownB, inB, hk] at hc
  omega
 have hno : ∀ n : Int, inB n 0 255 = true -> StpOk c (h, rC n) := fun n hn => ⟨hf, goodR_code n hn⟩
 have hq' := hq
 unfold fitsQ at hq'
 simp only [Bool.and_eq_true, List.all_eq_true, decide_eq_true_eq] at hq'
 obtain ⟨⟨⟨⟨q1, q2⟩, q3⟩, q4⟩, q5⟩ := hq'
 unfold callH
 split
 . unfold openS
   split
   . exact hno 1 (by decide)
   . rename_i hcap
     cases hr : roomK c.gens h.chans 0 with
     | none => exact hno _ (by split <;> decide)
     | some k =>
       have h1 := roomK_some h.chans 0 k hr
       simp only [Nat.zero_add, Nat.sub_zero] at h1
       have h2 := hf.ch _ (getD_mem (d := ChP.none) h1.2.1)
       have h3 : 0 <= (h.chans.getD k ChP.none).gen := by
        unfold chanB inB at h2
        simp only [Bool.and_eq_true, decide_eq_true_eq] at h2
        exact h2.1.1.1.1
       have hn := hf.nch
       refine ⟨hf.setC k _ ?_, ?_⟩
       . simp only [chanB, inB, valuesB, Bool.and_eq_true, decide_eq_true_eq, Bool.true_or, List.length_nil, List.all_nil]
         refine ⟨⟨⟨⟨?_, ?_⟩, ?_, ?_⟩, ?_, ?_⟩, ?_⟩ <;> first | trivial | omega
       . refine rv_good ?_
         exact handP_in _ _
 . split
   . unfold freeS
     split
     . exact hno 8 (by decide)
     . split
       . exact hno 13 (by decide)
       . rename_i h1 h2
         simp only [Bool.not_eq_false] at h1
         have h3 := hf.ch _ (getD_mem (d := ChP.none) (findB_lt h1))
         refine ⟨hf.setC _ _ ?_, goodR_code 0 (by decide)⟩
         unfold chanB inB at h3 ⊢
         simp only [valuesB, Bool.and_eq_true, decide_eq_true_eq, Bool.false_or, List.length_nil, List.all_nil] at h3 ⊢
         exact ⟨⟨⟨h3.1.1.1, by omega⟩, by omega, trivial⟩, by simp⟩
   . split
     . rename_i hk3
       unfold chooseS
       split
       . refine hno _ ?_
         unfold casesS
         (repeat' split) <;> decide
       . rename_i hcs
         have hcs' : casesS h.chans q.cs = 0 := by simpa using hcs
         have h13 : inB q.cs.length 1 3 = true := by
          unfold casesS at hcs'
          simp only [inB, Bool.and_eq_true, decide_eq_true_eq]
          split at hcs'
          . omega
          . omega
         have hfd : ∀ k ∈ q.cs, findB h.chans k.handle = true := by
          unfold casesS at hcs'
          split at hcs'
          . omega
          . split at hcs'
            . omega
            . split at hcs'
              . omega
              . rename_i h4
                simp only [Bool.not_eq_false, List.all_eq_true] at h4
                exact h4
         cases hp : pickK h q.cs 0 with
         | some p =>
           obtain ⟨i, k⟩ := p
           have h1 := pickK_some q.cs 0 i k hp
           have h2 := hf.ch _ (getD_mem (d := ChP.none) (findB_lt (hfd k h1.1)))
           have hv : inB k.value 0 4294967295 = true := by
            have := q5 k h1.1
            unfold mayC at this
            simp only [Bool.and_eq_true] at this
            exact this.2
           have hg := do_ok (handle := k.handle) (dir := k.dir) h2 hf.wt hv
           have hf2 := hf.setC (findP k.handle) _ hg.c
           refine ⟨⟨hf.tick, hf2.nch, ?_, ?_, ?_, hf2.ch, hg.l⟩, ?_⟩
           . show ((doS _ _ _ _ _).l.length : Int) = _
             rw [hg.len]; exact hf.nwt
           . show ((tellS _ _).length : Int) = _
             rw [tellS_len]; exact hf.ndn
           . exact tell_good _ _ hf.dn hg.told
           . have hr := hg.r
             simp only [goodR, Bool.and_eq_true] at hr
             have hi : inB (i : Int) 0 15 = true := by simp only [inB, Bool.and_eq_true, decide_eq_true_eq]; omega
             show goodR ⟨0, (i : Int), (doS _ _ _ _ _).r.code, (doS _ _ _ _ _).r.value⟩ = true
             simp only [goodR, Bool.and_eq_true]
             exact ⟨⟨⟨hr.1.1.1, hr.1.1.2⟩, hi⟩, hr.2⟩
         | none =>
           simp only
           split
           . exact hno 10 (by decide)
           . split
             . exact hno 7 (by decide)
             . split
               . exact hno 13 (by decide)
               . rename_i hd ht hpu
                 refine ⟨⟨?_, hf.nch, ?_, hf.ndn, hf.dn, hf.ch, ?_⟩, goodR_code 14 (by decide)⟩
                 . have := hf.tick; constructor <;> simp <;> omega
                 . unfold putS; split
                   . simpa using hf.nwt
                   . exact hf.nwt
                 . intro w hw
                   simp only [putS] at hw
                   split at hw
                   . rcases mem_set_or hw with h' | rfl
                     . exact hf.wt w h'
                     . have ht' := hf.tick
                       simp only [waitB, if_true, Bool.and_eq_true, List.all_eq_true]
                       exact ⟨⟨⟨by simp only [inB, Bool.and_eq_true, decide_eq_true_eq]; omega, hs⟩, h13⟩, q5⟩
                   . exact hf.wt w hw
     . split
       . unfold shutH
         split
         . exact hno 8 (by decide)
         . rename_i h1
           simp only [Bool.not_eq_false] at h1
           simp only
           split
           . exact hno 9 (by decide)
           . rename_i h2
             have h3 := hf.ch _ (getD_mem (d := ChP.none) (findB_lt h1))
             simp only [mayShut, Bool.not_eq_false, Bool.and_eq_true] at h2
             have hf2 := hf.setC (findP q.arg) ⟨(h.chans.getD (findP q.arg) ChP.none).gen, (h.chans.getD (findP q.arg) ChP.none).cap, (h.chans.getD (findP q.arg) ChP.none).used, true, (h.chans.getD (findP q.arg) ChP.none).buf⟩ (by
              unfold chanB at h3 ⊢
              simp only [Bool.and_eq_true, h2.1, Bool.true_or, and_true] at h3 ⊢
              exact h3)
             refine ⟨⟨hf.tick, hf2.nch, by simpa using hf.nwt, by simpa [shutDone] using hf.ndn, ?_, hf2.ch, ?_⟩, goodR_code 0 (by decide)⟩
             . intro r hr
               simp only [shutDone, List.mem_mapIdx] at hr
               obtain ⟨i, hi, hr⟩ := hr
               split at hr
               . rename_i h4
                 rw [<- hr]
                 have hon : (h.waits.getD i WtP.none).on = true := by
                  have := h4.2
                  unfold onB at this
                  simp only [Bool.and_eq_true] at this
                  exact this.1
                 refine ended_good hf.wt h4.1 hon ?_ (by decide) (by decide)
                 have h5 := (wait_case (hf.wt _ (getD_mem (d := WtP.none) h4.1)) hon).2.2
                 have h6 := firstV_rng (p := isH q.arg) (h.waits.getD i WtP.none).cs 0
                 have h7 : 0 <= firstV (isH q.arg) (h.waits.getD i WtP.none).cs 0 := by
                  refine ((firstV_lo (p := isH q.arg) _ 0).2).2 ?_
                  have := h4.2
                  unfold onB at this
                  simp only [Bool.and_eq_true] at this
                  exact this.2
                 simp only [inB, Bool.and_eq_true, decide_eq_true_eq] at h5 ⊢
                 omega
               . rw [<- hr]; exact hf.dn _ (List.getElem_mem hi)
             . intro w hw
               simp only [List.mem_map] at hw
               obtain ⟨v, hv, rfl⟩ := hw
               unfold freeW
               split
               . exact waitB_none
               . exact hf.wt v hv
       . split
         . refine ⟨hf, ?_⟩
           show goodR ⟨0, (lookS h q).case_, (lookS h q).code, (lookS h q).value⟩ = true
           unfold lookS
           split
           . exact goodR_code 8 (by decide)
           . rename_i h1
             simp only [Bool.not_eq_false] at h1
             have h3 := hf.ch _ (getD_mem (d := ChP.none) (findB_lt h1))
             have h4 := chanB_vals h3
             have h5 : 0 <= (h.chans.getD (findP q.arg) ChP.none).cap /\ (h.chans.getD (findP q.arg) ChP.none).cap <= c.cap := by
              unfold chanB inB at h3
              simp only [Bool.and_eq_true, decide_eq_true_eq] at h3
              exact h3.1.1.2
             split
             . refine rv_good (v := (h.chans.getD (findP q.arg) ChP.none).cap) ?_; simp only [inB, Bool.and_eq_true, decide_eq_true_eq]; omega
             . refine rv_good (v := ((h.chans.getD (findP q.arg) ChP.none).buf.length : Int)) ?_; simp only [inB, Bool.and_eq_true, decide_eq_true_eq]; omega
         . split
           . unfold cancelS
             split
             . rename_i h1
               refine ⟨⟨hf.tick, hf.nch, by simpa using hf.nwt, ?_, ?_, hf.ch, ?_⟩, goodR_code 0 (by decide)⟩
               . simp only; split
                 . simpa using hf.ndn
                 . exact hf.ndn
               . intro r hr
                 simp only at hr
                 split at hr
                 . rcases mem_set_or hr with h' | rfl
                   . exact hf.dn r h'
                   . have hlt : q.arg.toNat < h.waits.length := by have := h1.1; unfold inL at this; omega
                     have h2 := (wait_case (hf.wt _ (getD_mem (d := WtP.none) hlt)) h1.2.2.1).2.1
                     rw [h1.2.2.2] at h2
                     simp only [goodR, Bool.and_eq_true]
                     exact ⟨⟨⟨by decide, by decide⟩, by decide⟩, h2⟩
                 . exact hf.dn r hr
               . intro w hw
                 rcases mem_set_or hw with h' | rfl
                 . exact hf.wt w h'
                 . exact waitB_none
             . exact hno 12 (by decide)
           . exact hno 1 (by decide)
theorem apply_ok {c : Cfg} {h : HallP} {t seq : Int} {q : ReqP} (hc : chkB c = true) (hk : c.kind = 3) (hf : FitH c h) (hs : inB seq 0 1048575 = true) (hq : fitsQ q = true) : FitH c (applyH c.gens c.cap h t seq q) := by
 have hx := call_ok (t := t) hc hk hf hs hq
 unfold applyH
 simp only
 have h1 := hx.h
 refine ⟨h1.tick, h1.nch, h1.nwt, ?_, ?_, h1.ch, h1.wt⟩
 . simp only; split
   . simpa using h1.ndn
   . exact h1.ndn
 . intro r hr
   simp only at hr
   split at hr
   . rcases mem_set_or hr with h' | rfl
     . exact h1.dn r h'
     . have := hx.r
       simp only [goodR, Bool.and_eq_true] at this ⊢
       exact ⟨⟨⟨this.1.1.1, this.1.1.2⟩, this.1.2⟩, hs⟩
   . exact h1.dn r hr
theorem rowI_len (l : List Int) (n : Nat) : (rowI l n).length = n := by simp [rowI]
theorem flatMap_len {α : Type} (f : α -> List Int) (n : Nat) (h : ∀ x, (f x).length = n) : ∀ l : List α, (l.flatMap f).length = l.length * n
 | [] => by simp
 | x :: r => by
   rw [List.flatMap_cons, List.length_append, h, flatMap_len f n h r, List.length_cons, Nat.succ_mul]; omega
theorem chanI_len (cap : Int) (x : ChP) : (chanI cap x).length = 1 + cap.toNat := by simp [chanI, rowI_len]; omega
theorem waitI_len (w : WtP) : (waitI w).length = 4 := by simp [waitI, rowI_len]
theorem hallI_len (cap : Int) (h : HallP) : (hallI cap h).length = 1 + h.chans.length * (1 + cap.toNat) + h.waits.length * 4 + h.done.length := by
 unfold hallI
 rw [List.length_append, List.length_append, List.length_append, flatMap_len _ _ (chanI_len cap), flatMap_len _ _ waitI_len, List.length_map]
 rfl
theorem cellsI_len (cap : Int) (x : CellsP) : (cellsI cap x).length = 1 + cap.toNat + x.done.length := by
 unfold cellsI
 rw [List.length_append, List.length_append, rowI_len, List.length_map]
 rfl
structure FitC (c : Cfg) (x : CellsP) : Prop where
 cap : x.cap = c.cap
 few : (x.list.length : Int) <= c.cap
 vals : ∀ v ∈ x.list, inB v 0 4294967295 = true
 ndn : (x.done.length : Int) = c.threads
 dn : ∀ r ∈ x.done, goodR r = true
theorem fitsC_iff {c : Cfg} {x : CellsP} (hc : chkB c = true) (hk : ¬ c.kind = 3) : fitsC c x = true ↔ FitC c x := by
 unfold fitsC dnsB valuesB
 simp only [hc, hk, Bool.true_and, decide_false, Bool.not_false, Bool.and_eq_true, decide_eq_true_eq, List.all_eq_true]
 constructor
 . rintro ⟨⟨h1, h2, h3⟩, h4, h5⟩
   exact ⟨h1, h2, h3, h4, h5⟩
 . rintro ⟨h1, h2, h3, h4, h5⟩
   exact ⟨⟨h1, h2, h3⟩, h4, h5⟩
theorem chk_cap {c : Cfg} (h : chkB c = true) : 0 <= c.cap /\ c.cap <= 16 /\ 1 <= c.threads /\ c.threads <= 64 /\ 0 <= c.chans /\ c.chans <= 8 := by
 simp only [chkB, ownB, inB, Bool.and_eq_true, decide_eq_true_eq] at h
 grind
theorem stpC_ok {c : Cfg} {x : CellsP} {q : ReqP} (last : Bool) (hc : chkB c = true) (hf : FitC c x) (hq : fitsQ q = true) :
  ((stpC last x.cap x.list q).1.length : Int) <= c.cap /\ (∀ v ∈ (stpC last x.cap x.list q).1, inB v 0 4294967295 = true) /\ inB (stpC last x.cap x.list q).2.1 0 255 = true /\ inB (stpC last x.cap x.list q).2.2 0 4294967295 = true := by
 have hb := chk_cap hc
 have h1 := hf.cap
 have h2 := hf.few
 have hq' := hq
 unfold fitsQ at hq'
 simp only [Bool.and_eq_true] at hq'
 have hi : ∀ n : Int, 0 <= n /\ n <= 16 -> inB n 0 4294967295 = true := fun n h => by simp only [inB, Bool.and_eq_true, decide_eq_true_eq]; omega
 unfold stpC
 split
 . split
   . refine ⟨by simp; omega, fun v hv => ?_, rfl, rfl⟩
     rcases List.mem_append.1 hv with h | h
     . exact hf.vals v h
     . simp only [List.mem_singleton] at h; rw [h]; exact hq'.1.1.2
   . exact ⟨h2, hf.vals, rfl, rfl⟩
 . split
   . split
     . exact ⟨h2, hf.vals, rfl, rfl⟩
     . split
       . exact ⟨by simp; omega, fun v hv => hf.vals v (List.mem_of_mem_take hv), rfl, hf.vals _ (getD_mem (by omega))⟩
       . exact ⟨by simp; omega, fun v hv => hf.vals v (List.mem_of_mem_drop hv), rfl, hf.vals _ (getD_mem (by omega))⟩
   . split
     . exact ⟨h2, hf.vals, rfl, hi (x.list.length : Int) (by omega)⟩
     . split
       . exact ⟨h2, hf.vals, rfl, hi x.cap (by omega)⟩
       . exact ⟨h2, hf.vals, rfl, rfl⟩
theorem applyC_ok {c : Cfg} {x : CellsP} {t seq : Int} {q : ReqP} (last : Bool) (hc : chkB c = true) (hf : FitC c x) (hs : inB seq 0 1048575 = true) (hq : fitsQ q = true) : FitC c (applyC last x t seq q) := by
 obtain ⟨h1, h2, h3, h4⟩ := stpC_ok last hc hf hq
 refine ⟨hf.cap, h1, h2, ?_, ?_⟩
 . simp only [applyC, setR]; split
   . simpa using hf.ndn
   . exact hf.ndn
 . intro r hr
   simp only [applyC, setR] at hr
   split at hr
   . rcases mem_set_or hr with h' | rfl
     . exact hf.dn r h'
     . simp only [goodR, Bool.and_eq_true]
       exact ⟨⟨⟨h4, h3⟩, by decide⟩, hs⟩
   . exact hf.dn r hr
theorem sizeS_hall {c : Cfg} (hc : chkB c = true) (hk : c.kind = 3) : sizeS c = 1 + c.chans * (1 + c.cap) + c.threads * 4 + c.threads := by
 simp [sizeS, stateS, hc, hk]
theorem sizeS_cells {c : Cfg} (hc : chkB c = true) (hk : ¬ c.kind = 3) : sizeS c = 1 + c.cap + c.threads := by
 simp [sizeS, stateS, hc, hk]
theorem hallI_size {c : Cfg} {h : HallP} (hc : chkB c = true) (hk : c.kind = 3) (hf : FitH c h) : ((hallI c.cap h).length : Int) = sizeS c := by
 have hb := chk_cap hc
 rw [hallI_len, sizeS_hall hc hk]
 have h1 := hf.nch
 have h2 := hf.nwt
 have h3 := hf.ndn
 have e : ((c.cap.toNat : Nat) : Int) = c.cap := by omega
 simp only [Int.natCast_add, Int.natCast_mul, h1, h2, h3, e]
 rfl
theorem cellsI_size {c : Cfg} {x : CellsP} (hc : chkB c = true) (hk : ¬ c.kind = 3) (hf : FitC c x) : ((cellsI c.cap x).length : Int) = sizeS c := by
 have hb := chk_cap hc
 rw [cellsI_len, sizeS_cells hc hk]
 have h3 := hf.ndn
 have e : ((c.cap.toNat : Nat) : Int) = c.cap := by omega
 simp only [Int.natCast_add, h3, e]
 rfl
theorem readH_fit {c : Cfg} {l : List Int} {h : HallP} (e : readH c l = some h) : chkB c = true /\ c.kind = 3 /\ FitH c h /\ (l.length : Int) = sizeS c /\ hallI c.cap h = l := by
 unfold readH at e
 split at e
 . rename_i h1
   simp only [Option.some.injEq] at e
   obtain ⟨h2, h3, h4, h5⟩ := h1
   rw [e] at h5
   have hb := chk_cap h2
   unfold putH at h5
   split at h5
   . rename_i hf
     exact ⟨h2, h3, (fitsH_iff h2 h3).1 hf, h4, h5⟩
   . rw [<- h5, sizeS_hall h2 h3] at h4
     have := Int.mul_nonneg hb.2.2.2.2.1 (show 0 <= 1 + c.cap by omega)
     simp only [List.length_nil] at h4
     omega
 . cases e
theorem readC_fit {c : Cfg} {l : List Int} {x : CellsP} (e : readC c l = some x) : chkB c = true /\ ¬ c.kind = 3 /\ FitC c x /\ (l.length : Int) = sizeS c /\ cellsI c.cap x = l := by
 unfold readC at e
 split at e
 . rename_i h1
   simp only [Option.some.injEq] at e
   obtain ⟨h2, h3, h4, h5⟩ := h1
   rw [e] at h5
   have hb := chk_cap h2
   unfold putC at h5
   split at h5
   . rename_i hf
     exact ⟨h2, h3, (fitsC_iff h2 h3).1 hf, h4, h5⟩
   . rw [<- h5, sizeS_cells h2 h3] at h4
     simp only [List.length_nil] at h4
     omega
 . cases e
theorem applyO_len {c : Cfg} {l : List Int} {t seq : Int} {q : ReqP} : (applyO c l t seq q).length = l.length := by
 unfold applyO
 split
 . rfl
 . rename_i hg
   have hs : inB seq 0 1048575 = true := by simp only [inB, Bool.and_eq_true, decide_eq_true_eq]; omega
   have hq : fitsQ q = true := by
    cases h : fitsQ q
    . exact absurd (Or.inr (Or.inr (Or.inr (Or.inr h)))) hg
    . rfl
   split
   . cases hr : readH c l with
     | none => rfl
     | some h =>
       obtain ⟨h1, h2, h3, h4, _⟩ := readH_fit hr
       have h5 := apply_ok (t := t) h1 h2 h3 hs hq
       have h6 := hallI_size h1 h2 h5
       simp only [putH, (fitsH_iff h1 h2).2 h5, if_true]
       omega
   . cases hr : readC c l with
     | none => rfl
     | some x =>
       obtain ⟨h1, h2, h3, h4, _⟩ := readC_fit hr
       have h5 := applyC_ok (t := t) (decide (c.kind = 2)) h1 h3 hs hq
       have h6 := cellsI_size h1 h2 h5
       simp only [putC, (fitsC_iff h1 h2).2 h5, if_true]
       omega
theorem results_cell1 {fn : Func} {p : Tmp} {ty : TypeId} (h : fn.results = #[.cell p ty]) (tmps : Array Value) (P : Program) (w : World) :
  (results fn tmps).run P w = ((asAddr (tmps.getD p undef)).run P w).andThen fun a w₁ => (loadVar ty a).run P w₁ := by
 simp only [results, h]
 simp
theorem ret_cell {fn : Func} {p : Tmp} {ty : TypeId} (h : fn.results = #[.cell p ty]) {tmps : Array Value} {w : World} {g : Nat} {v : Value} (ht : tmps.getD p undef = .pointer (some ⟨g, 0, none⟩)) (hl : (loadVar ty ⟨g, 0, none⟩).run Tryz.prog w = .ok v w) :
  (results fn tmps).run Tryz.prog w = .ok v w := by
 rw [results_cell1 h, ht]
 have ha : (asAddr (.pointer (some ⟨g, 0, none⟩))).run Tryz.prog w = .ok ⟨g, 0, none⟩ w := by simp [asAddr, go_sem]
 rw [ha, Result.andThen_ok]
 exact hl
theorem CloneC_info : (Tryz.prog.info? 100).map (fun i => (i.zero, i.size, i.bytes)) = some (some (cseV Cse.none), 3, 24) := by kernel_rfl
theorem CloneC_any (A : Option Addr) (n c : Nat) (xs : List Value) (w : World) (hn : n * 24 <= 140737488355328) (hx : xs.length = n * 3) (h1 : ∀ u ∈ xs, u.oneCell' = true) (hR : Rd w A xs) :
  Calls Tryz.prog 192 #[.slice A n c] w (RetOwn 100 3 n xs w) := by
 have HR := Zd hR
 have HX := Zd hx
 have H1 := Zd h1
 clear hR hx h1
 rcases A with _ | ad
 . have hxs : xs = [] := by
    rcases HR.out with h | ⟨b, o, h, _⟩
    . exact h
    . cases h
   obtain rfl : n = 0 := by have := HX.out; rw [hxs] at this; simp at this; omega
   have hnil := fun w => Lib.run_eql_slice_nil (P := Tryz.prog) w 38 100 none 0 c 0 0 Tryz.underlying38
   go_enter Tryz.func192, Tryz.ntmps192
   go_wp2
   go_ret
   exact ⟨none, 0, rfl, by rw [hxs]; exact own_nil _ _ _ _, Below.refl _ _⟩
 . have hnil := fun w => Lib.run_eql_slice_nil (P := Tryz.prog) w 38 100 (some ad) n c 0 0 Tryz.underlying38
   obtain ⟨i0, hi, hz0, hz1, hz2⟩ := info_parts CloneC_info
   have hnm : n <= maxLen := by unfold maxLen; omega
   have HI := Zd (And.intro hi (And.intro hz0 (And.intro hz1 (And.intro hz2 hnm))))
   clear hi hz0 hz1 hz2 hnm
   go_enter Tryz.func192, Tryz.ntmps192
   go_wp2_with (at_builtin; refine wpList_append_own _ rfl (.tmp 5) (.tmp 6) 38 rfl w.heap.size 100 i0 (cseV Cse.none) 3 24 Tryz.underlying38 HI.out.1 HI.out.2.1 HI.out.2.2.1 HI.out.2.2.2.1 rfl (by decide) (.slice (some ⟨w.heap.size, 0, none⟩) 0 0) 0 [] rfl (own_empty w 100 3) ad n c xs rfl HX.out (rd_add (HR.out.alloc _)) H1.out (by have := HI.out.2.2.2.2; omega) (by omega) (by simp) ?_; intro v' w1 hown1 hg1 hnl1)
   go_ret
   have hown2 : w1.ownsRow w.heap.size 100 3 v' n xs := by simpa using hown1
   have hb := ((Below.refl _ w).alloc (Nat.le_refl _) _).trans ((own_grown (own_empty w 100 3) (by simp) hg1))
   rcases hown2.2 with ⟨rfl, h0⟩ | ⟨g, cap, cur, rfl, _⟩
   . subst h0
     exact ⟨none, 0, rfl, hown2, hb⟩
   . exact ⟨_, _, rfl, hown2, hb⟩
abbrev wtrV (x : Wtr) : Value := .agg #[.bool x.on, .int .i64 x.ticket, .int .i64 x.seq, .slice x.A x.cs.length x.c]
theorem CloneWt_info : (Tryz.prog.info? 128).map (fun i => (i.zero, i.size, i.bytes)) = some (some (wtrV Wtr.none), 4, 48) := by kernel_rfl
theorem CloneWt_any (A : Option Addr) (n c : Nat) (xs : List Value) (w : World) (hn : n * 48 <= 140737488355328) (hx : xs.length = n * 4) (h1 : ∀ u ∈ xs, u.oneCell' = true) (hR : Rd w A xs) :
  Calls Tryz.prog 191 #[.slice A n c] w (RetOwn 128 4 n xs w) := by
 have HR := Zd hR
 have HX := Zd hx
 have H1 := Zd h1
 clear hR hx h1
 rcases A with _ | ad
 . have hxs : xs = [] := by
    rcases HR.out with h | ⟨b, o, h, _⟩
    . exact h
    . cases h
   obtain rfl : n = 0 := by have := HX.out; rw [hxs] at this; simp at this; omega
   have hnil := fun w => Lib.run_eql_slice_nil (P := Tryz.prog) w 84 128 none 0 c 0 0 Tryz.underlying84
   go_enter Tryz.func191, Tryz.ntmps191
   go_wp2
   go_ret
   exact ⟨none, 0, rfl, by rw [hxs]; exact own_nil _ _ _ _, Below.refl _ _⟩
 . have hnil := fun w => Lib.run_eql_slice_nil (P := Tryz.prog) w 84 128 (some ad) n c 0 0 Tryz.underlying84
   obtain ⟨i0, hi, hz0, hz1, hz2⟩ := info_parts CloneWt_info
   have hnm : n <= maxLen := by unfold maxLen; omega
   have HI := Zd (And.intro hi (And.intro hz0 (And.intro hz1 (And.intro hz2 hnm))))
   clear hi hz0 hz1 hz2 hnm
   go_enter Tryz.func191, Tryz.ntmps191
   go_wp2_with (at_builtin; refine wpList_append_own _ rfl (.tmp 5) (.tmp 6) 84 rfl w.heap.size 128 i0 (wtrV Wtr.none) 4 48 Tryz.underlying84 HI.out.1 HI.out.2.1 HI.out.2.2.1 HI.out.2.2.2.1 rfl (by decide) (.slice (some ⟨w.heap.size, 0, none⟩) 0 0) 0 [] rfl (own_empty w 128 4) ad n c xs rfl HX.out (rd_add (HR.out.alloc _)) H1.out (by have := HI.out.2.2.2.2; omega) (by omega) (by simp) ?_; intro v' w1 hown1 hg1 hnl1)
   go_ret
   have hown2 : w1.ownsRow w.heap.size 128 4 v' n xs := by simpa using hown1
   have hb := ((Below.refl _ w).alloc (Nat.le_refl _) _).trans ((own_grown (own_empty w 128 4) (by simp) hg1))
   rcases hown2.2 with ⟨rfl, h0⟩ | ⟨g, cap, cur, rfl, _⟩
   . subst h0
     exact ⟨none, 0, rfl, hown2, hb⟩
   . exact ⟨_, _, rfl, hown2, hb⟩
theorem CloneCh_info : (Tryz.prog.info? 124).map (fun i => (i.zero, i.size, i.bytes)) = some (some (chnV Chn.none), 5, 48) := by kernel_rfl
theorem CloneCh_any (A : Option Addr) (n c : Nat) (xs : List Value) (w : World) (hn : n * 48 <= 140737488355328) (hx : xs.length = n * 5) (h1 : ∀ u ∈ xs, u.oneCell' = true) (hR : Rd w A xs) :
  Calls Tryz.prog 168 #[.slice A n c] w (RetOwn 124 5 n xs w) := by
 have HR := Zd hR
 have HX := Zd hx
 have H1 := Zd h1
 clear hR hx h1
 rcases A with _ | ad
 . have hxs : xs = [] := by
    rcases HR.out with h | ⟨b, o, h, _⟩
    . exact h
    . cases h
   obtain rfl : n = 0 := by have := HX.out; rw [hxs] at this; simp at this; omega
   have hnil := fun w => Lib.run_eql_slice_nil (P := Tryz.prog) w 83 124 none 0 c 0 0 Tryz.underlying83
   go_enter Tryz.func168, Tryz.ntmps168
   go_wp2
   go_ret
   exact ⟨none, 0, rfl, by rw [hxs]; exact own_nil _ _ _ _, Below.refl _ _⟩
 . have hnil := fun w => Lib.run_eql_slice_nil (P := Tryz.prog) w 83 124 (some ad) n c 0 0 Tryz.underlying83
   obtain ⟨i0, hi, hz0, hz1, hz2⟩ := info_parts CloneCh_info
   have hnm : n <= maxLen := by unfold maxLen; omega
   have HI := Zd (And.intro hi (And.intro hz0 (And.intro hz1 (And.intro hz2 hnm))))
   clear hi hz0 hz1 hz2 hnm
   go_enter Tryz.func168, Tryz.ntmps168
   go_wp2_with (at_builtin; refine wpList_append_own _ rfl (.tmp 5) (.tmp 6) 83 rfl w.heap.size 124 i0 (chnV Chn.none) 5 48 Tryz.underlying83 HI.out.1 HI.out.2.1 HI.out.2.2.1 HI.out.2.2.2.1 rfl (by decide) (.slice (some ⟨w.heap.size, 0, none⟩) 0 0) 0 [] rfl (own_empty w 124 5) ad n c xs rfl HX.out (rd_add (HR.out.alloc _)) H1.out (by have := HI.out.2.2.2.2; omega) (by omega) (by simp) ?_; intro v' w1 hown1 hg1 hnl1)
   go_ret
   have hown2 : w1.ownsRow w.heap.size 124 5 v' n xs := by simpa using hown1
   have hb := ((Below.refl _ w).alloc (Nat.le_refl _) _).trans ((own_grown (own_empty w 124 5) (by simp) hg1))
   rcases hown2.2 with ⟨rfl, h0⟩ | ⟨g, cap, cur, rfl, _⟩
   . subst h0
     exact ⟨none, 0, rfl, hown2, hb⟩
   . exact ⟨_, _, rfl, hown2, hb⟩
theorem CloneRs_info : (Tryz.prog.info? 42).map (fun i => (i.zero, i.size, i.bytes)) = some (some (rsV Resr.none), 4, 32) := by kernel_rfl
theorem CloneRs_any (A : Option Addr) (n c : Nat) (xs : List Value) (w : World) (hn : n * 32 <= 140737488355328) (hx : xs.length = n * 4) (h1 : ∀ u ∈ xs, u.oneCell' = true) (hR : Rd w A xs) :
  Calls Tryz.prog 163 #[.slice A n c] w (RetOwn 42 4 n xs w) := by
 have HR := Zd hR
 have HX := Zd hx
 have H1 := Zd h1
 clear hR hx h1
 rcases A with _ | ad
 . have hxs : xs = [] := by
    rcases HR.out with h | ⟨b, o, h, _⟩
    . exact h
    . cases h
   obtain rfl : n = 0 := by have := HX.out; rw [hxs] at this; simp at this; omega
   have hnil := fun w => Lib.run_eql_slice_nil (P := Tryz.prog) w 85 42 none 0 c 0 0 Tryz.underlying85
   go_enter Tryz.func163, Tryz.ntmps163
   go_wp2
   go_ret
   exact ⟨none, 0, rfl, by rw [hxs]; exact own_nil _ _ _ _, Below.refl _ _⟩
 . have hnil := fun w => Lib.run_eql_slice_nil (P := Tryz.prog) w 85 42 (some ad) n c 0 0 Tryz.underlying85
   obtain ⟨i0, hi, hz0, hz1, hz2⟩ := info_parts CloneRs_info
   have hnm : n <= maxLen := by unfold maxLen; omega
   have HI := Zd (And.intro hi (And.intro hz0 (And.intro hz1 (And.intro hz2 hnm))))
   clear hi hz0 hz1 hz2 hnm
   go_enter Tryz.func163, Tryz.ntmps163
   go_wp2_with (at_builtin; refine wpList_append_own _ rfl (.tmp 5) (.tmp 6) 85 rfl w.heap.size 42 i0 (rsV Resr.none) 4 32 Tryz.underlying85 HI.out.1 HI.out.2.1 HI.out.2.2.1 HI.out.2.2.2.1 rfl (by decide) (.slice (some ⟨w.heap.size, 0, none⟩) 0 0) 0 [] rfl (own_empty w 42 4) ad n c xs rfl HX.out (rd_add (HR.out.alloc _)) H1.out (by have := HI.out.2.2.2.2; omega) (by omega) (by simp) ?_; intro v' w1 hown1 hg1 hnl1)
   go_ret
   have hown2 : w1.ownsRow w.heap.size 42 4 v' n xs := by simpa using hown1
   have hb := ((Below.refl _ w).alloc (Nat.le_refl _) _).trans ((own_grown (own_empty w 42 4) (by simp) hg1))
   rcases hown2.2 with ⟨rfl, h0⟩ | ⟨g, cap, cur, rfl, _⟩
   . subst h0
     exact ⟨none, 0, rfl, hown2, hb⟩
   . exact ⟨_, _, rfl, hown2, hb⟩
theorem CloneI_info : (Tryz.prog.info? 3).map (fun i => (i.zero, i.size, i.bytes)) = some (some (.int .i64 0), 1, 8) := by kernel_rfl
theorem CloneI_any (A : Option Addr) (n c : Nat) (xs : List Value) (w : World) (hn : n * 8 <= 140737488355328) (hx : xs.length = n * 1) (h1 : ∀ u ∈ xs, u.oneCell' = true) (hR : Rd w A xs) :
  Calls Tryz.prog 167 #[.slice A n c] w (RetOwn 3 1 n xs w) := by
 have HR := Zd hR
 have HX := Zd hx
 have H1 := Zd h1
 clear hR hx h1
 rcases A with _ | ad
 . have hxs : xs = [] := by
    rcases HR.out with h | ⟨b, o, h, _⟩
    . exact h
    . cases h
   obtain rfl : n = 0 := by have := HX.out; rw [hxs] at this; simp at this; omega
   have hnil := fun w => Lib.run_eql_slice_nil (P := Tryz.prog) w 22 3 none 0 c 0 0 Tryz.underlying22
   go_enter Tryz.func167, Tryz.ntmps167
   go_wp2
   go_ret
   exact ⟨none, 0, rfl, by rw [hxs]; exact own_nil _ _ _ _, Below.refl _ _⟩
 . have hnil := fun w => Lib.run_eql_slice_nil (P := Tryz.prog) w 22 3 (some ad) n c 0 0 Tryz.underlying22
   obtain ⟨i0, hi, hz0, hz1, hz2⟩ := info_parts CloneI_info
   have hnm : n <= maxLen := by unfold maxLen; omega
   have HI := Zd (And.intro hi (And.intro hz0 (And.intro hz1 (And.intro hz2 hnm))))
   clear hi hz0 hz1 hz2 hnm
   go_enter Tryz.func167, Tryz.ntmps167
   go_wp2_with (at_builtin; refine wpList_append_own _ rfl (.tmp 5) (.tmp 6) 22 rfl w.heap.size 3 i0 (.int .i64 0) 1 8 Tryz.underlying22 HI.out.1 HI.out.2.1 HI.out.2.2.1 HI.out.2.2.2.1 rfl (by decide) (.slice (some ⟨w.heap.size, 0, none⟩) 0 0) 0 [] rfl (own_empty w 3 1) ad n c xs rfl HX.out (rd_add (HR.out.alloc _)) H1.out (by have := HI.out.2.2.2.2; omega) (by omega) (by simp) ?_; intro v' w1 hown1 hg1 hnl1)
   go_ret
   have hown2 : w1.ownsRow w.heap.size 3 1 v' n xs := by simpa using hown1
   have hb := ((Below.refl _ w).alloc (Nat.le_refl _) _).trans ((own_grown (own_empty w 3 1) (by simp) hg1))
   rcases hown2.2 with ⟨rfl, h0⟩ | ⟨g, cap, cur, rfl, _⟩
   . subst h0
     exact ⟨none, 0, rfl, hown2, hb⟩
   . exact ⟨_, _, rfl, hown2, hb⟩
def words (l : List Int) : List Value := l.map (Value.int .u64)
theorem words_at {l : List Int} {k : Nat} (h : k < l.length) : (words l)[k]? = some (.int .u64 (l.getD k 0)) := by
 simp [words, List.getD, List.getElem?_eq_getElem h]
theorem words_length (l : List Int) : (words l).length = l.length := by simp [words]
theorem eq_of_take {α : Type} [BEq α] [LawfulBEq α] (l r : List α) (n : Nat) (hl : l.length = n) (hr : r.length = n) (h : l.take n = r.take n) : (l == r) = true := by
 rw [List.take_of_length_le (by omega), List.take_of_length_le (by omega)] at h
 simp [h]
theorem take_snoc_eq {α : Type} (l r : List α) (d : α) (k : Nat) (hl : k < l.length) (hr : k < r.length) (h : l.take k = r.take k) (he : l.getD k d = r.getD k d) : l.take (k + 1) = r.take (k + 1) := by
 rw [List.take_succ_eq_append_getElem hl, List.take_succ_eq_append_getElem hr, h]
 simp [List.getD, hl, hr] at he
 rw [he]
theorem ne_of_getD {α : Type} [BEq α] [LawfulBEq α] (l r : List α) (d : α) (k : Nat) (he : ¬ l.getD k d = r.getD k d) : (l == r) = false := by
 rw [beq_eq_false_iff_ne]; rintro rfl; exact he rfl
theorem ne_of_length {α : Type} [BEq α] [LawfulBEq α] (l r : List α) (he : ¬ l.length = r.length) : (l == r) = false := by
 rw [beq_eq_false_iff_ne]; rintro rfl; exact he rfl
theorem CloneW_info : (Tryz.prog.info? 95).map (fun i => (i.zero, i.size, i.bytes)) = some (some (.int .u64 0), 1, 8) := by kernel_rfl
theorem CloneW_any (A : Option Addr) (n c : Nat) (xs : List Value) (w : World) (hn : n * 8 <= 140737488355328) (hx : xs.length = n * 1) (h1 : ∀ u ∈ xs, u.oneCell' = true) (hR : Rd w A xs) :
  Calls Tryz.prog 104 #[.slice A n c] w (RetOwn 95 1 n xs w) := by
 have HR := Zd hR
 have HX := Zd hx
 have H1 := Zd h1
 clear hR hx h1
 rcases A with _ | ad
 . have hxs : xs = [] := by
    rcases HR.out with h | ⟨b, o, h, _⟩
    . exact h
    . cases h
   obtain rfl : n = 0 := by have := HX.out; rw [hxs] at this; simp at this; omega
   have hnil := fun w => Lib.run_eql_slice_nil (P := Tryz.prog) w 53 95 none 0 c 0 0 Tryz.underlying53
   go_enter Tryz.func104, Tryz.ntmps104
   go_wp2
   go_ret
   exact ⟨none, 0, rfl, by rw [hxs]; exact own_nil _ _ _ _, Below.refl _ _⟩
 . have hnil := fun w => Lib.run_eql_slice_nil (P := Tryz.prog) w 53 95 (some ad) n c 0 0 Tryz.underlying53
   obtain ⟨i0, hi, hz0, hz1, hz2⟩ := info_parts CloneW_info
   have hnm : n <= maxLen := by unfold maxLen; omega
   have HI := Zd (And.intro hi (And.intro hz0 (And.intro hz1 (And.intro hz2 hnm))))
   clear hi hz0 hz1 hz2 hnm
   go_enter Tryz.func104, Tryz.ntmps104
   go_wp2_with (at_builtin; refine wpList_append_own _ rfl (.tmp 5) (.tmp 6) 53 rfl w.heap.size 95 i0 (.int .u64 0) 1 8 Tryz.underlying53 HI.out.1 HI.out.2.1 HI.out.2.2.1 HI.out.2.2.2.1 rfl (by decide) (.slice (some ⟨w.heap.size, 0, none⟩) 0 0) 0 [] rfl (own_empty w 95 1) ad n c xs rfl HX.out (rd_add (HR.out.alloc _)) H1.out (by have := HI.out.2.2.2.2; omega) (by omega) (by simp) ?_; intro v' w1 hown1 hg1 hnl1)
   go_ret
   have hown2 : w1.ownsRow w.heap.size 95 1 v' n xs := by simpa using hown1
   have hb := ((Below.refl _ w).alloc (Nat.le_refl _) _).trans ((own_grown (own_empty w 95 1) (by simp) hg1))
   rcases hown2.2 with ⟨rfl, h0⟩ | ⟨g, cap, cur, rfl, _⟩
   . subst h0
     exact ⟨none, 0, rfl, hown2, hb⟩
   . exact ⟨_, _, rfl, hown2, hb⟩
theorem own_form {w : World} {base : Nat} {e : TypeId} {s n : Nat} {A : Option Addr} {c : Nat} {xs : List Value} (h : w.ownsRow base e s (.slice A n c) n xs) (hn : 0 < n) :
  ∃ g, A = some ⟨g, 0, none⟩ /\ base <= g /\ g < w.heap.size /\ (∀ i, w.frozen? ⟨g, i, none⟩ = false) /\
   ∀ j u, j < n * s -> (w.setCell ⟨g, j, none⟩ u).ownsRow base e s (.slice A n c) n (xs.set j u) := by
 rcases h with ⟨h1, ⟨hv, h0⟩ | ⟨g, cap, cur, hv, hg, hh, hnc, hm, hsz, hx⟩⟩
 . omega
 . injection hv with hA hn' hc
   subst hA
   have hlt : g < w.heap.size := by
    rcases Nat.lt_or_ge g w.heap.size with hlt | hge
    . exact hlt
    . rw [Array.getElem?_eq_none hge] at hh; cases hh
   refine ⟨g, rfl, hg, hlt, fun i => by simp [World.frozen?, hh], fun j u hj => ?_⟩
   refine ⟨by simpa using h1, .inr ⟨g, cap, cur.setIfInBounds j u, by rw [hc], hg, ?_, hnc, hm, by simpa using hsz, ?_⟩⟩
   . simp [World.setCell, Array.getElem?_modify, hh]
   . rw [<- hx]
     simp only [Array.toList_setIfInBounds]
     rw [List.take_set]
theorem words_one (l : List Int) : ∀ u ∈ words l, u.oneCell' = true := by
 intro u hu; simp only [words, List.mem_map] at hu; obtain ⟨x, _, rfl⟩ := hu; rfl
theorem own_set {w : World} {base : Nat} {e : TypeId} {s n g : Nat} {c : Nat} {xs : List Value} (h : w.ownsRow base e s (.slice (some ⟨g, 0, none⟩) n c) n xs) (hn : 0 < n) (j : Nat) (u : Value) (hj : j < n * s) :
  (w.setCell ⟨g, j, none⟩ u).ownsRow base e s (.slice (some ⟨g, 0, none⟩) n c) n (xs.set j u) := by
 obtain ⟨g', hg, _, _, _, hs⟩ := own_form h hn
 injection hg with hg
 injection hg with hg
 subst hg
 exact hs j u hj
theorem own_cap {w : World} {base : Nat} {e : TypeId} {s n : Nat} {A : Option Addr} {c : Nat} {xs : List Value} (h : w.ownsRow base e s (.slice A n c) n xs) : n <= c := by
 rcases h.2 with ⟨hv, h0⟩ | ⟨g, cap, cur, hv, _, _, hnc, _⟩
 . omega
 . injection hv with _ _ hc
   omega
end Go.Proofs.YtieglgahfeecbaaGreatDoor
