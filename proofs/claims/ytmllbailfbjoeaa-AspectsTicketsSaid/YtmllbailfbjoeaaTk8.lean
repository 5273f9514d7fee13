/- tickets: Notes, New; mem.New, walked. -/
import Derived.Test.YtmllbailfbjoeaaTk6
namespace Go.Proofs.Ytmllbailfbjoeaa
open Go.RowKit Go.Sort

set_option maxHeartbeats 1000000 in
set_option maxRecDepth 100000 in
theorem CloneN_any (A : Option Addr) (n c : Nat) (xs : List Value) (w : World) (hn : n * 120 ≤ 140737488355328) (hx : xs.length = n * 13) (h1 : ∀ u ∈ xs, u.oneCell' = true) (hR : Rd w A xs) :
    Calls Try.prog 101 #[.slice A n c] w (RetOwn 119 13 n xs w) := by
  have HR := Lib.hid hR
  have HX := Lib.hid hx
  have H1 := Lib.hid h1
  clear hR hx h1
  rcases A with _ | ad
  · have hxs : xs = [] := by
      rcases HR.out with h | ⟨b, o, h, _⟩
      · exact h
      · cases h
    obtain rfl : n = 0 := by have := HX.out; rw [hxs] at this; simp at this; omega
    have hnil := fun w => Lib.run_eql_slice_nil (P := Try.prog) w 29 119 none 0 c 0 0 Try.underlying29
    go_enter Try.func101, Try.ntmps101
    go_wp2
    go_ret
    exact ⟨none, 0, rfl, by rw [hxs]; exact own_nil _ _ _ _, Below.refl _ _⟩
  · have hnil := fun w => Lib.run_eql_slice_nil (P := Try.prog) w 29 119 (some ad) n c 0 0 Try.underlying29
    obtain ⟨i0, hi, hz0, hz1, hz2⟩ := info_parts Nte_info
    have hnm : n ≤ maxLen := by unfold maxLen; omega
    have HI := Lib.hid (And.intro hi (And.intro hz0 (And.intro hz1 (And.intro hz2 hnm))))
    clear hi hz0 hz1 hz2 hnm
    go_enter Try.func101, Try.ntmps101
    go_wp2_with (at_builtin; refine wpList_append_own _ rfl (.tmp 5) (.tmp 6) 29 rfl w.heap.size 119 i0 (zN) 13 120 Try.underlying29 HI.out.1 HI.out.2.1 HI.out.2.2.1 HI.out.2.2.2.1 rfl (by decide) (.slice (some ⟨w.heap.size, 0, none⟩) 0 0) 0 [] rfl (own_empty w 119 13) ad n c xs rfl HX.out (rd_add (HR.out.alloc _)) H1.out (by have := HI.out.2.2.2.2; omega) (by omega) (by simp) ?_; intro v' w1 hown1 hg1 hnl1)
    go_ret
    have hown2 : w1.ownsRow w.heap.size 119 13 v' n xs := by simpa using hown1
    have hb := ((Below.refl _ w).alloc (Nat.le_refl _) _).trans ((own_grown (own_empty w 119 13) (by simp) hg1))
    rcases hown2.2 with ⟨rfl, h0⟩ | ⟨g, cap, cur, rfl, _⟩
    · subst h0
      exact ⟨none, 0, rfl, hown2, hb⟩
    · exact ⟨_, _, rfl, hown2, hb⟩

set_option maxHeartbeats 1000000 in
set_option maxRecDepth 100000 in
theorem Notes_any (gw gm gl gq B b0 sz tr : Nat) (q : TQ) (w : World) (hn : q.ns.length ≤ 4096) (hQ : QIs gw gm gl gq B b0 sz tr q w) :
    Calls Try.prog 62 #[.pointer (some ⟨gq, 0, none⟩)] w (RetOwn 119 13 q.ns.length (rows q.ns) w) := by
  obtain ⟨cb, cs, AC, cc, AN, cn, hQ⟩ := hQ
  have HC := Lib.hid (CloneN_any AN q.ns.length cn (rows q.ns) w (by omega) (by rw [rows_length]; rfl) (rows_one _) (own_rd hQ.notes))
  obtain ⟨c0, c1, c2, c3, c4, c5⟩ := que_cells hQ.box
  clear hQ
  generalize rows q.ns = xs at *
  generalize q.ns.length = nn at *
  go_enter Try.func62, Try.ntmps62
  go_wp2_with fail
  refine HC.out.mono ?_
  rintro e w1 ⟨A, c, rfl, hown, hb⟩
  have HO := Lib.hid hown
  have HB := Lib.hid hb
  clear hown hb
  go_wp2
  go_ret
  exact ⟨A, c, rfl, HO.out, HB.out⟩

/-- make([]uint64, n), n small. -/
theorem make_words (n : Nat) (hn : n ≤ 1048576) (w : World) :
    (Instr.makeSlice 53 (.int .i64 (n : Int)) (.int .i64 (n : Int))).run Try.prog w = .ok (.slice (some ⟨w.heap.size, 0, none⟩) n n) (w.alloc (.cells (words (List.replicate n 0)).toArray 42)) := by
  obtain ⟨i, hi, hz, hs, hb⟩ := info_parts CloneW_info
  have hr := run_make (P := Try.prog) w 53 42 i (.int .u64 0) Try.underlying53 hi hz .i64 .i64 n n (by omega) (by omega) (by rw [hb]; omega) (by omega)
  simp only [Int.toNat_natCast] at hr
  have e1 : madeCells (Value.int .u64 0).cells (n * i.size) = (words (List.replicate n 0)).toArray := by
    rw [hs]
    apply Array.ext
    · simp [madeCells, words]
    · intro j h1 h2
      simp [madeCells, words, Value.cells, Nat.mod_one]
  rw [hr, e1]

theorem man_info : (Try.prog.info? 113).map (fun i => (i.zero, i.size, i.bytes)) = some (some (manV Man.none), 5, 40) := by kernel_rfl
theorem rows_none (n : Nat) : rows (List.replicate n Man.none) = List.replicate (n * 5) (.int .i64 0) := by
  induction n with
  | zero => rfl
  | succ n ih => rw [List.replicate_succ, rows_cons, ih, Nat.succ_mul, Nat.add_comm, ← List.replicate_append_replicate]; rfl

/-- make([]api.Cellman, n), n small. -/
theorem make_men (n : Nat) (hn : n ≤ 1048576) (w : World) :
    (Instr.makeSlice 108 (.int .i64 (n : Int)) (.int .i64 (n : Int))).run Try.prog w = .ok (.slice (some ⟨w.heap.size, 0, none⟩) n n) (w.alloc (.cells (rows (List.replicate n Man.none)).toArray 113)) := by
  obtain ⟨i, hi, hz, hs, hb⟩ := info_parts man_info
  have hr := run_make (P := Try.prog) w 108 113 i (manV Man.none) Try.underlying108 hi hz .i64 .i64 n n (by omega) (by omega) (by rw [hb]; omega) (by omega)
  simp only [Int.toNat_natCast] at hr
  have e1 : madeCells (manV Man.none).cells (n * i.size) = (rows (List.replicate n Man.none)).toArray := by
    rw [hs, rows_none]
    apply Array.ext
    · simp [madeCells]
    · intro j h1 h2
      have h5 : j % 5 = 0 ∨ j % 5 = 1 ∨ j % 5 = 2 ∨ j % 5 = 3 ∨ j % 5 = 4 := by omega
      rcases h5 with h | h | h | h | h <;> simp [madeCells, Value.cells, Man.none, h]
  rw [hr, e1]

def memNew (n : Nat) (w : World) : World := (w.alloc (.cells (words (List.replicate n 0)).toArray 42)).alloc (.cells (memL n w.heap.size none 0 0).toArray 132)

set_option maxHeartbeats 1000000 in
set_option maxRecDepth 100000 in
theorem memNew_any (n : Nat) (w : World) (h1 : 1 ≤ n) (h2 : n ≤ 1048576) :
    Calls Try.prog 97 #[.int .i64 n] w (fun e w' => e = .returned (.pointer (some ⟨w.heap.size + 1, 0, none⟩)) ∧ w' = memNew n w) := by
  have hmk := make_words n h2
  have d1 : decide ((n : Int) < 1) = false := by simp; omega
  have d2 : decide ((n : Int) > 1048576) = false := by simp; omega
  go_enter Try.func97, Try.ntmps97
  go_wp2
  go_ret
  exact ⟨by simp, rfl⟩

theorem memNew_parts (n : Nat) (w : World) : Blk (memNew n w) w.heap.size 42 (words (List.replicate n 0)) ∧ Blk (memNew n w) (w.heap.size + 1) 132 (memL n w.heap.size none 0 0) ∧ (memNew n w).heap.size = w.heap.size + 2 ∧ Below w.heap.size w (memNew n w) :=
  ⟨(blk_new rfl).alloc _, blk_new (by simp), by simp [memNew], ((Below.refl _ _).alloc (Nat.le_refl _) _).alloc (by simp) _⟩

/-- The queue as New lays it. -/
theorem new_at {W : World} {gw gm gl gq B b0 sz tr th : Nat} (h1 : Blk W gw 42 (words (List.replicate (sz + 2) 0))) (h2 : Blk W gm 132 (memL (sz + 2) gw none 0 0)) (h3 : Blk W gl 113 (rows (List.replicate th Man.none))) (h4 : Blk W gq 110 (queL gm sz tr gl th none 0 0 0)) (hB : B = W.heap.size) (hlow : b0 ≤ gw ∧ b0 ≤ gm ∧ b0 ≤ gl ∧ b0 ≤ gq) : QIs gw gm gl gq B b0 sz tr (TQ.new sz th) W := by
  subst hB
  refine ⟨none, [], none, 0, none, 0, ⟨h1, ?_, own_nil _ _ _ _, by simp, rfl, blk_ne h1 h2 (by decide), h1.lt, h2.lt, Nat.le_refl _⟩, ?_, h3, own_nil _ _ _ _, h3.lt, h4.lt, hlow.1, hlow.2.1, hlow.2.2.1, hlow.2.2.2, Nat.le_trans hlow.1 (Nat.le_of_lt h1.lt)⟩
  · simpa [TQ.new] using h2
  · simpa [TQ.new] using h4

def NewOk (sz th tr : Int) : Prop := 1 ≤ sz ∧ sz ≤ 4096 ∧ 1 ≤ th ∧ th ≤ 64 ∧ 1 ≤ tr ∧ tr ≤ 64

def RetNew (sz tr th : Nat) (w : World) (e : Ending) (w' : World) : Prop :=
  ∃ gw gm gl gq B, e = .returned (.tuple #[.pointer (some ⟨gq, 0, none⟩), .int .i64 0]) ∧ QIs gw gm gl gq B w.heap.size sz tr (TQ.new sz th) w' ∧ Below w.heap.size w w'

set_option maxHeartbeats 4000000 in
set_option maxRecDepth 100000 in
theorem New_any (sz th tr : Nat) (w : World) (h : NewOk sz th tr) :
    Calls Try.prog 58 #[.int .i64 sz, .int .i64 th, .int .i64 tr] w (RetNew sz tr th w) := by
  obtain ⟨s1, s2, t1, t2, r1, r2⟩ := h
  have hmk := make_men th (by omega)
  have HN : RowKit.Hid (∀ (W : World) (z : Int), z = 2 + (sz : Int) → Calls Try.prog 97 #[.int .i64 z] W (fun e w' => e = .returned (.pointer (some ⟨W.heap.size + 1, 0, none⟩)) ∧ w' = memNew (sz + 2) W)) := Lib.hid (fun W z hz => by
    have h := memNew_any (sz + 2) W (by omega) (by omega)
    rwa [show ((sz + 2 : Nat) : Int) = z by omega] at h)
  have HWR := Lib.hid (IntWalk.i64_in (2 + (sz : Int)) (by omega))
  have d1 : decide ((sz : Int) < 1) = false := by simp; omega
  have d2 : decide ((sz : Int) > 4096) = false := by simp; omega
  have d3 : decide ((th : Int) < 1) = false := by simp; omega
  have d4 : decide ((th : Int) > 64) = false := by simp; omega
  have d5 : decide ((tr : Int) < 1) = false := by simp; omega
  have d6 : decide ((tr : Int) > 64) = false := by simp; omega
  go_enter Try.func58, Try.ntmps58
  go_upto_region 3 with (fail)
  go_region_with (go_at_call 97; refine (HN.out _ _ (by first | rfl | exact HWR.out)).mono ?_; rintro e w1 ⟨rfl, hw1⟩; have HW1 := Lib.hid hw1; clear hw1)
  all_goals
    go_wp2
    go_ret2
    first
      | (obtain ⟨p1, p2, p3, p4⟩ := memNew_parts (sz + 2) w.drew
         rw [← HW1.out] at p1 p2 p3 p4
         have e : w.drew.heap.size = w.heap.size := rfl
         rw [e] at p1 p2 p3 p4
         have hlt := p4.size
         exact ⟨w.heap.size, w.heap.size + 1, w1.heap.size, w1.heap.size + 1, _, rfl, new_at ((p1.alloc _).alloc _) ((p2.alloc _).alloc _) ((blk_new rfl).alloc _) (blk_new (by simp)) rfl ⟨Nat.le_refl _, Nat.le_succ _, hlt, Nat.le_succ_of_le hlt⟩, ((show Below w.heap.size w w1 from ⟨p4.os, p4.tape, p4.output, p4.size, p4.block⟩).alloc hlt _).alloc (by simp; omega) _⟩)
      | (obtain ⟨p1, p2, p3, p4⟩ := memNew_parts (sz + 2) (w.alloc (.cells (rows (List.replicate th Man.none)).toArray 113)).drew
         rw [← HW1.out] at p1 p2 p3 p4
         have e : (w.alloc (.cells (rows (List.replicate th Man.none)).toArray 113)).drew.heap.size = w.heap.size + 1 := by
           show (w.alloc _).heap.size = _
           simp
         have hm : Blk w1 w.heap.size 113 (rows (List.replicate th Man.none)) := (Blk.drew (blk_new (w := w) rfl)).below p4 (by rw [e]; omega)
         have hb : Below w.heap.size w w1 := (below1 _ _).trans (p4.mono (by rw [e]; omega))
         rw [e] at p1 p2 p3 p4
         have hlt := hb.size
         exact ⟨w.heap.size + 1, w.heap.size + 1 + 1, w.heap.size, w1.heap.size, _, rfl, new_at (p1.alloc _) (p2.alloc _) (hm.alloc _) (blk_new rfl) rfl ⟨by omega, by omega, Nat.le_refl _, hlt⟩, hb.alloc hlt _⟩)

def ManOk (sz tr : Nat) (m : Man) : Prop := (0 ≤ m.seq ∧ m.seq ≤ 1048575) ∧ (0 ≤ m.value ∧ m.value ≤ 4294967295) ∧ (0 ≤ m.at_ ∧ m.at_ < sz) ∧ (0 ≤ m.try_ ∧ m.try_ < tr)

structure QB (n sz tr : Nat) (q : TQ) : Prop where
  word : ∀ k, 0 ≤ q.word k ∧ q.word k ≤ 8589934592 + n
  man : ∀ t, ManOk sz tr (q.man t)
  time : 0 ≤ q.time ∧ q.time ≤ n
  ns : q.ns.length ≤ n

theorem man_set' (q : TQ) (t : Nat) (y : Man) (u : Nat) : (q.setM t y).man u = q.man u ∨ (u = t ∧ (q.setM t y).man u = y) := by
  simp only [TQ.setM, TQ.man, List.getD, List.getElem?_set]
  by_cases h : t = u
  · subst h
    by_cases hl : t < q.l.length
    · right; simp [hl]
    · left; simp [hl]
  · left; simp [h]
theorem man_set_ne (q : TQ) (t : Nat) (y : Man) (u : Nat) (h : u ≠ t) : (q.setM t y).man u = q.man u := by
  rcases man_set' q t y u with e | ⟨e, _⟩
  · exact e
  · exact absurd e h
theorem word_set' (q : TQ) (k : Nat) (x : Int) (u : Nat) : (q.setW k x).word u = q.word u ∨ (u = k ∧ (q.setW k x).word u = x) := by
  simp only [TQ.setW, TQ.word, List.getD, List.getElem?_set]
  by_cases h : k = u
  · subst h
    by_cases hl : k < q.ws.length
    · right; simp [hl]
    · left; simp [hl]
  · left; simp [h]

section
variable {n sz tr : Nat} {q : TQ} {t : Nat}

theorem QB.more (h : QB n sz tr q) : QB (n + 1) sz tr q :=
  ⟨fun k => by have := h.word k; omega, h.man, by have := h.time; omega, by have := h.ns; omega⟩
theorem QB.setM (h : QB n sz tr q) (y : Man) (hy : ManOk sz tr y) : QB n sz tr (q.setM t y) :=
  ⟨h.word, fun u => by rcases man_set' q t y u with e | ⟨_, e⟩ <;> rw [e] <;> first | exact h.man u | exact hy, h.time, h.ns⟩
theorem QB.setW (h : QB n sz tr q) (k : Nat) (x : Int) (hx : 0 ≤ x ∧ x ≤ 8589934592 + n) : QB n sz tr (q.setW k x) :=
  ⟨fun u => by rcases word_set' q k x u with e | ⟨_, e⟩ <;> rw [e] <;> first | exact h.word u | exact hx, h.man, h.time, h.ns⟩
theorem QB.note (h : QB n sz tr q) (hn : q.ns.length + 1 ≤ n) (kind : Int) (s c v : Int) : QB n sz tr (q.note kind t s c v) :=
  ⟨h.word, h.man, h.time, by simp [TQ.note]; exact hn⟩
theorem ManOk.idle {m : Man} (h : ManOk sz tr m) (hsz : 1 ≤ sz) (htr : 1 ≤ tr) : ManOk sz tr ⟨0, m.seq, 0, 0, 0⟩ := by
  unfold ManOk at *; simp only; omega
theorem QB.ends (h : QB n sz tr q) (hn : q.ns.length + 1 ≤ n) (hsz : 1 ≤ sz) (htr : 1 ≤ tr) (code v : Int) : QB n sz tr (q.ends t code v) :=
  (h.note hn 3 _ _ _).setM _ ((h.man t).idle hsz htr)

theorem QB.begin (h : QB n sz tr q) (hsz : 1 ≤ sz) (htr : 1 ≤ tr) (pc v : Int) (hv : 0 ≤ v ∧ v ≤ 4294967295) : QB (n + 1) sz tr (q.begin t pc v) := by
  unfold TQ.begin
  split
  · exact h.more
  · rename_i hc
    have hm := h.man t
    have h1 := (h.more).setM (t := t) ⟨pc, (q.man t).seq + 1, v, 0, 0⟩ (by unfold ManOk at *; simp only; omega)
    have h2 : QB (n + 1) sz tr (q.setM t ⟨pc, (q.man t).seq + 1, v, 0, 0⟩).tic := ⟨h1.word, h1.man, by have := h.time; show 0 ≤ q.time + 1 ∧ q.time + 1 ≤ _; omega, h1.ns⟩
    exact h2.note (by have := h.ns; show q.ns.length + 1 ≤ _; omega) 1 0 0 0

theorem QB.ticket (h : QB n sz tr q) (hn : q.ns.length + 1 ≤ n) (hsz : 1 ≤ sz) (htr : 1 ≤ tr) (word : Nat) (hw : q.word word + 1 ≤ 8589934592 + n) (next : Int) : QB n sz tr (q.ticket sz t word next) := by
  have hw0 := (h.word word).1
  have h1 := h.setW word (q.word word + 1) (by omega)
  have hm := h.man t
  unfold TQ.ticket
  split
  · exact h1.ends hn hsz htr 6 0
  · exact h1.setM _ (by unfold ManOk at *; simp only; omega)

theorem QB.again (h : QB n sz tr q) (hn : q.ns.length + 1 ≤ n) (hsz : 1 ≤ sz) (htr : 1 ≤ tr) (pc : Int) (ht : t < q.l.length) : QB n sz tr (q.again tr t pc) := by
  have hm := h.man t
  unfold TQ.again
  split
  · rename_i he
    refine ⟨h.word, fun u => ?_, h.time, by simp [TQ.ends, TQ.note, TQ.setM]; exact hn⟩
    unfold TQ.ends
    rcases Nat.decEq u t with hu | hu
    · rw [man_set_ne _ _ _ _ hu]
      show ManOk sz tr ((q.setM t _).man u)
      rw [man_set_ne _ _ _ _ hu]
      exact h.man u
    · subst hu
      have e := man_set ((q.setM u ⟨pc, (q.man u).seq, (q.man u).value, (q.man u).at_, (q.man u).try_ + 1⟩).note 3 u ((q.setM u ⟨pc, (q.man u).seq, (q.man u).value, (q.man u).at_, (q.man u).try_ + 1⟩).man u).seq 6 0) (t := u) (by simpa [TQ.note, TQ.setM] using ht) ⟨0, ((q.setM u ⟨pc, (q.man u).seq, (q.man u).value, (q.man u).at_, (q.man u).try_ + 1⟩).man u).seq, 0, 0, 0⟩ u
      rw [e, if_pos rfl, man_set q ht, if_pos rfl]
      exact (hm.idle hsz htr)
  · rename_i he
    exact h.setM _ (by unfold ManOk at *; simp only; omega)

theorem QB.step (h : QB n sz tr q) (hsz : 1 ≤ sz) (htr : 1 ≤ tr) (ht : t < q.l.length) : QB (n + 1) sz tr (q.step sz tr t) := by
  have h1 := h.more
  have hn : q.ns.length + 1 ≤ n + 1 := by have := h.ns; omega
  have hw := h.word
  have hm := h.man t
  unfold TQ.step
  split
  · exact h1.ticket hn hsz htr 1 (by have := (hw 1).2; omega) 2
  split
  · split
    · exact (h1.setW _ _ (by unfold ManOk at hm; omega)).ends hn hsz htr 0 0
    · exact h1.again hn hsz htr 1 ht
  split
  · exact h1.ticket hn hsz htr 0 (by have := (hw 0).2; omega) 4
  split
  · split
    · exact (h1.setW _ _ (by omega)).setM _ hm
    · exact h1.setM _ hm
  split
  · exact h1.ends hn hsz htr 0 _
  split
  · split
    · exact h1.ends hn hsz htr 10 0
    · exact h1.again hn hsz htr 3 ht
  · exact h1

theorem QB.tic (h : QB n sz tr q) : QB (n + 1) sz tr q.tic := ⟨h.more.word, h.man, by have := h.time; show 0 ≤ q.time + 1 ∧ q.time + 1 ≤ _; omega, h.more.ns⟩

theorem QB.act (h : QB n sz tr q) (hsz : 1 ≤ sz) (htr : 1 ≤ tr) (kind t x : Int) : QB (n + 2) sz tr (q.act sz tr kind t x) := by
  unfold TQ.act
  split
  · exact h.more.more
  · rename_i ht
    split
    · split
      · exact h.more.more
      · exact (h.begin hsz htr 1 x (by omega)).more
    · split
      · exact (h.begin hsz htr 3 0 (by omega)).more
      · exact h.tic.step hsz htr (by show _ < q.l.length; omega)

theorem QB.sok (h : QB n sz tr q) (hf : Fine sz q) (hn : n ≤ 4000) (hsz : sz ≤ 4096) (htr : tr ≤ 64) (hl : q.l.length ≤ 64) (ht : t < q.l.length) : SOk sz q.tic t := by
  obtain ⟨s, hs, hi⟩ := hf
  have hm := h.man t
  unfold ManOk at hm
  refine ⟨ht, hl, by have := h.ns; show q.ns.length ≤ _; omega, hsz, hs.len, fun k => by have := h.word k; show 0 ≤ q.word k ∧ q.word k ≤ _; omega, hm.2.2.1, hm.2.1, by show 0 ≤ (q.man t).try_ ∧ (q.man t).try_ ≤ 64; omega, fun h5 => ?_⟩
  have hp : s.pc t = 5 := by rw [hs.pc]; exact h5
  have hh := hi.hold4 t (.inr (.inl hp))
  have hat := hs.at_ t (by omega)
  have hca : q.tic.cellAt t = s.at_ t + 2 := by show (q.man t).at_.toNat + 2 = _; rw [hat]; simp
  rw [hca]
  show 2 ≤ q.word _
  rw [hs.cell _ hh.2.1]
  exact hi.at5 t hp
end

theorem qb_new (sz th tr : Nat) (hsz : 1 ≤ sz) (htr : 1 ≤ tr) : QB 0 sz tr (TQ.new sz th) := by
  have hw : ∀ k, (TQ.new sz th).word k = 0 := by intro k; simp [TQ.new, TQ.word, List.getD, List.getElem?_replicate]; split <;> rfl
  have hm : ∀ k, (TQ.new sz th).man k = Man.none := by intro k; simp [TQ.new, TQ.man, List.getD, List.getElem?_replicate]; split <;> rfl
  exact ⟨fun k => by rw [hw]; omega, fun k => by rw [hm]; unfold ManOk Man.none; simp only; omega, by simp [TQ.new], by simp [TQ.new]⟩

theorem act_len (sz tr : Nat) (q : TQ) (kind t x : Int) : (q.act sz tr kind t x).l.length = q.l.length := by
  have e1 : ∀ (q : TQ) t code v, (q.ends t code v).l.length = q.l.length := fun q t code v => by simp [TQ.ends, TQ.note, TQ.setM]
  have e2 : ∀ (q : TQ) t y, (q.setM t y).l.length = q.l.length := fun q t y => by simp [TQ.setM]
  have e3 : ∀ (q : TQ) k y, (q.setW k y).l.length = q.l.length := fun q t y => rfl
  have e4 : ∀ (q : TQ) t pc v, (q.begin t pc v).l.length = q.l.length := fun q t pc v => by
    unfold TQ.begin; split
    · rfl
    · simp [TQ.note, TQ.setM, TQ.tic]
  have e5 : ∀ (q : TQ) t w n, (q.ticket sz t w n).l.length = q.l.length := fun q t w n => by
    unfold TQ.ticket; split
    · rw [e1, e3]
    · rw [e2, e3]
  have e6 : ∀ (q : TQ) t p, (q.again tr t p).l.length = q.l.length := fun q t p => by
    unfold TQ.again; split
    · rw [e1, e2]
    · rw [e2]
  have e7 : ∀ (q : TQ) t, (q.step sz tr t).l.length = q.l.length := fun q t => by
    unfold TQ.step
    repeat' split
    all_goals first | rfl | rw [e5] | rw [e1, e3] | rw [e6] | rw [e2, e3] | rw [e2] | rw [e1]
  unfold TQ.act
  repeat' split
  all_goals first | rfl | rw [e4] | (rw [e7]; rfl)

set_option maxHeartbeats 4000000 in
set_option maxRecDepth 100000 in
theorem New_bad (sz th tr : Int) (w : World) (h : ¬ NewOk sz th tr) :
    Calls Try.prog 58 #[.int .i64 sz, .int .i64 th, .int .i64 tr] w (fun e w' => e = .returned (.tuple #[.pointer none, .int .i64 1]) ∧ Below w.heap.size w w') := by
  by_cases h1 : sz < 1
  · have d1 : decide (sz < 1) = true := by simpa using h1
    clear h h1
    go_enter Try.func58, Try.ntmps58
    go_wp2
    go_ret2
    exact ⟨rfl, Below.refl _ _⟩
  have d1 : decide (sz < 1) = false := by simpa using h1
  by_cases h2 : sz > 4096
  · have d2 : decide (sz > 4096) = true := by simpa using h2
    clear h h1 h2
    go_enter Try.func58, Try.ntmps58
    go_wp2
    go_ret2
    exact ⟨rfl, Below.refl _ _⟩
  have d2 : decide (sz > 4096) = false := by simpa using h2
  by_cases h3 : th < 1
  · have d3 : decide (th < 1) = true := by simpa using h3
    clear h h1 h2 h3
    go_enter Try.func58, Try.ntmps58
    go_wp2
    go_ret2
    exact ⟨rfl, Below.refl _ _⟩
  have d3 : decide (th < 1) = false := by simpa using h3
  by_cases h4 : th > 64
  · have d4 : decide (th > 64) = true := by simpa using h4
    clear h h1 h2 h3 h4
    go_enter Try.func58, Try.ntmps58
    go_wp2
    go_ret2
    exact ⟨rfl, Below.refl _ _⟩
  have d4 : decide (th > 64) = false := by simpa using h4
  by_cases h5 : tr < 1
  · have d5 : decide (tr < 1) = true := by simpa using h5
    clear h h1 h2 h3 h4 h5
    go_enter Try.func58, Try.ntmps58
    go_wp2
    go_ret2
    exact ⟨rfl, Below.refl _ _⟩
  have d5 : decide (tr < 1) = false := by simpa using h5
  have d6 : decide (tr > 64) = true := by unfold NewOk at h; simp; omega
  clear h h1 h2 h3 h4 h5
  go_enter Try.func58, Try.ntmps58
  go_wp2
  go_ret2
  exact ⟨rfl, Below.refl _ _⟩

end Go.Proofs.Ytmllbailfbjoeaa
