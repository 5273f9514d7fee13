/- tickets: how a queue lies in memory, and what stays; made, walked. -/
import Derived.Test.YtmllbailfbjoeaaMem3
namespace Go.Proofs.Ytmllbailfbjoeaa
open Go.RowKit Go.Sort

def Man.cells (a : Man) : List Value := [.int .i64 a.pc, .int .i64 a.seq, .int .i64 a.value, .int .i64 a.at_, .int .i64 a.try_]
abbrev manV (a : Man) : Value := .agg #[.int .i64 a.pc, .int .i64 a.seq, .int .i64 a.value, .int .i64 a.at_, .int .i64 a.try_]
instance : Cellful Man where
  cells := Man.cells
  s := 5
  dflt := Man.none
  len := fun _ => rfl
  one := fun a u hu => by
    simp only [Man.cells, List.mem_cons, List.not_mem_nil, or_false] at hu
    rcases hu with rfl | rfl | rfl | rfl | rfl <;> rfl

def queL (gm sz tr gl th : Nat) (AN : Option Addr) (nn cn : Nat) (time : Int) : List Value :=
  [.pointer (some ⟨gm, 0, none⟩), .int .i64 sz, .int .i64 tr, .slice (some ⟨gl, 0, none⟩) th th, .slice AN nn cn, .int .i64 time]

/-- The queue q lies in block gq, its words in gw, its Mem in gm, its threads in gl; its notes, and the counts, in blocks from B on; all of them from b0 on. -/
structure QAt (gw gm gl gq B b0 sz tr : Nat) (q : TQ) (w : World) (cb : Option Nat) (cs : List Int) (AC : Option Addr) (cc : Nat) (AN : Option Addr) (cn : Nat) : Prop where
  mem : MAt gw gm B cb q.ws w cs AC cc
  box : Blk w gq 110 (queL gm sz tr gl q.l.length AN q.ns.length cn q.time)
  men : Blk w gl 113 (rows q.l)
  notes : w.ownsRow B 119 13 (.slice AN q.ns.length cn) q.ns.length (rows q.ns)
  ltl : gl < B
  ltq : gq < B
  low : b0 ≤ gw ∧ b0 ≤ gm ∧ b0 ≤ gl ∧ b0 ≤ gq ∧ b0 ≤ B

def QIs (gw gm gl gq B b0 sz tr : Nat) (q : TQ) (w : World) : Prop := ∃ cb cs AC cc AN cn, QAt gw gm gl gq B b0 sz tr q w cb cs AC cc AN cn

/-- Behind a call on the queue: it stands as q, and what lay below b0 is as it was. -/
def QPost (gw gm gl gq B b0 sz tr : Nat) (q : TQ) (w w' : World) : Prop := QIs gw gm gl gq B b0 sz tr q w' ∧ Below b0 w w'

theorem blk_ne {w : World} {g g' : Nat} {t t' : TypeId} {cs cs' : List Value} (h : Blk w g t cs) (h' : Blk w g' t' cs') (hne : t ≠ t') : g ≠ g' := by
  rintro rfl
  unfold Blk at h h'
  rw [h] at h'
  injection h' with h'
  injection h' with _ ht
  exact hne ht
theorem own_own_ne {w : World} {base base' : Nat} {e e' : TypeId} {s n s' n' : Nat} {v v' : Value} {xs xs' : List Value} (h : w.ownsRow base e s v n xs) (h' : w.ownsRow base' e' s' v' n' xs') (hne : e ≠ e') : ∀ k, v.ownBlock = some k → v'.ownBlock ≠ some k := by
  intro k hk hk'
  rcases h.2 with ⟨rfl, _⟩ | ⟨g, cap, cur, rfl, _, hh, _⟩
  · simp [Value.ownBlock] at hk
  · rcases h'.2 with ⟨rfl, _⟩ | ⟨g', cap', cur', rfl, _, hh', _⟩
    · simp [Value.ownBlock] at hk'
    · simp only [Value.ownBlock, Option.some.injEq] at hk hk'
      subst hk hk'
      rw [hh] at hh'
      injection hh' with hh'
      injection hh' with _ ht
      exact hne ht

section
variable {gw gm gl gq B b0 sz tr : Nat} {q : TQ} {w w' : World} {cb : Option Nat} {cs : List Int} {AC : Option Addr} {cc : Nat} {AN : Option Addr} {cn : Nat}

theorem QAt.base (h : QAt gw gm gl gq B b0 sz tr q w cb cs AC cc AN cn) : b0 ≤ w.heap.size := Nat.le_trans h.low.2.2.2.2 h.mem.base
theorem QAt.nB (h : QAt gw gm gl gq B b0 sz tr q w cb cs AC cc AN cn) : ∀ k, Value.ownBlock (.slice AN q.ns.length cn) = some k → B ≤ k := own_block h.notes
theorem QAt.keep {S : Nat → Prop} (h : QAt gw gm gl gq B b0 sz tr q w cb cs AC cc AN cn) (hk : Keep S w w') (h1 : ¬ S gw) (h2 : ¬ S gm) (h3 : ∀ k, cb = some k → ¬ S k) (h4 : ¬ S gl) (h5 : ¬ S gq) (h6 : ∀ k, Value.ownBlock (.slice AN q.ns.length cn) = some k → ¬ S k) : QAt gw gm gl gq B b0 sz tr q w' cb cs AC cc AN cn :=
  ⟨h.mem.keep hk h1 h2 h3, hk.blk h.box h5, hk.blk h.men h4, hk.own h.notes h6, h.ltl, h.ltq, h.low⟩
theorem QAt.below (h : QAt gw gm gl gq B b0 sz tr q w cb cs AC cc AN cn) (hb : Below w.heap.size w w') : QAt gw gm gl gq B b0 sz tr q w' cb cs AC cc AN cn :=
  h.keep (S := fun _ => False) (.of_below hb) (fun h => h) (fun h => h) (fun _ _ h => h) (fun h => h) (fun h => h) (fun _ _ h => h)
theorem QAt.alloc (h : QAt gw gm gl gq B b0 sz tr q w cb cs AC cc AN cn) (o : Obj) : QAt gw gm gl gq B b0 sz tr q (w.alloc o) cb cs AC cc AN cn := h.below ((Below.refl _ _).alloc (Nat.le_refl _) _)
theorem QAt.drewN (h : QAt gw gm gl gq B b0 sz tr q w cb cs AC cc AN cn) (n : Nat) : QAt gw gm gl gq B b0 sz tr q (w.drewN n) cb cs AC cc AN cn := h.below (Below.drewN' (Below.refl _ _) n)

/-- Cells that are not of the queue are written. -/
theorem QAt.other (h : QAt gw gm gl gq B b0 sz tr q w cb cs AC cc AN cn) {g : Nat} (hk : Keep (fun k => k = g) w w') (h1 : g ≠ gw ∧ g ≠ gm ∧ g ≠ gl ∧ g ≠ gq) (h2 : cb ≠ some g) (h3 : Value.ownBlock (.slice AN q.ns.length cn) ≠ some g) : QAt gw gm gl gq B b0 sz tr q w' cb cs AC cc AN cn :=
  h.keep hk (Ne.symm h1.1) (Ne.symm h1.2.1) (fun k hk e => h2 (by rw [hk, e])) (Ne.symm h1.2.2.1) (Ne.symm h1.2.2.2) (fun k hk e => h3 (by rw [hk, e]))

theorem QAt.fresh (h : QAt gw gm gl gq B b0 sz tr q w cb cs AC cc AN cn) {g : Nat} (hg : w.heap.size ≤ g) : (g ≠ gw ∧ g ≠ gm ∧ g ≠ gl ∧ g ≠ gq) ∧ cb ≠ some g ∧ Value.ownBlock (.slice AN q.ns.length cn) ≠ some g := by
  have h1 := h.mem.words.lt
  have h2 := h.mem.box.lt
  have h3 := h.men.lt
  have h4 := h.box.lt
  refine ⟨⟨by omega, by omega, by omega, by omega⟩, fun e => ?_, fun e => ?_⟩
  · have := h.mem.row.lt g (by rw [h.mem.cb]; exact e); omega
  · have := h.notes.lt g e; omega

/-- The words have changed. -/
theorem QAt.words (h : QAt gw gm gl gq B b0 sz tr q w cb cs AC cc AN cn) {ws' : List Int} (hp : MPost gw gm B cb ws' w w') : QPost gw gm gl gq B b0 sz tr { q with ws := ws' } w w' := by
  obtain ⟨cb', cs', AC', cc', hM, hK, hC⟩ := hp
  have e1 := blk_ne h.men h.mem.words (by decide)
  have e2 := blk_ne h.men h.mem.box (by decide)
  have e3 := blk_ne h.box h.mem.words (by decide)
  have e4 := blk_ne h.box h.mem.box (by decide)
  refine ⟨⟨cb', cs', AC', cc', AN, cn, hM, hK.blk h.box ?_, hK.blk h.men ?_, hK.own h.notes ?_, h.ltl, h.ltq, h.low⟩, hK.below ?_ h.base⟩
  · rintro (e | e | e)
    · exact e3 e
    · exact e4 e
    · have := h.mem.cbB _ e; have := h.ltq; omega
  · rintro (e | e | e)
    · exact e1 e
    · exact e2 e
    · have := h.mem.cbB _ e; have := h.ltl; omega
  · intro k hk
    have hkB := h.nB k hk
    rintro (e | e | e)
    · have := h.mem.ltw; omega
    · have := h.mem.ltm; omega
    · exact own_own_ne h.notes h.mem.row (by decide) k hk (by rw [h.mem.cb]; exact e)
  · have hl := h.low
    rintro k (e | e | e)
    · omega
    · omega
    · have := h.mem.cbB _ e; omega

/-- The threads have changed. -/
theorem QAt.setL (h : QAt gw gm gl gq B b0 sz tr q w cb cs AC cc AN cn) {l' : List Man} (hl : l'.length = q.l.length) (hk : Keep (fun k => k = gl) w w') (hb : Blk w' gl 113 (rows l')) : QAt gw gm gl gq B b0 sz tr { q with l := l' } w' cb cs AC cc AN cn := by
  have e1 := blk_ne h.men h.mem.words (by decide)
  have e2 := blk_ne h.men h.mem.box (by decide)
  have e3 := blk_ne h.men h.box (by decide)
  have hlt := h.ltl
  refine ⟨h.mem.keep hk (fun e => e1 e.symm) (fun e => e2 e.symm) (fun k hk e => ?_), ?_, hb, hk.own h.notes (fun k hk e => ?_), h.ltl, h.ltq, h.low⟩
  · have := h.mem.cbB k hk; omega
  · show Blk w' gq _ (queL gm sz tr gl l'.length AN q.ns.length cn q.time)
    rw [hl]; exact hk.blk h.box (fun e => e3 e.symm)
  · have := h.nB k hk; omega

/-- The time has changed. -/
theorem QAt.setT (h : QAt gw gm gl gq B b0 sz tr q w cb cs AC cc AN cn) (x : Int) : QAt gw gm gl gq B b0 sz tr { q with time := x } (w.setCell ⟨gq, 5, none⟩ (.int .i64 x)) cb cs AC cc AN cn := by
  have e3 := blk_ne h.box h.mem.words (by decide)
  have e4 := blk_ne h.box h.mem.box (by decide)
  have e5 := blk_ne h.box h.men (by decide)
  have hlt := h.ltq
  have hk : Keep (fun k => k = gq) w (w.setCell ⟨gq, 5, none⟩ (.int .i64 x)) := (Keep.refl _ w).set_ gq 5 _ (.inr rfl)
  refine ⟨h.mem.keep hk (fun e => e3 e.symm) (fun e => e4 e.symm) (fun k hk e => ?_), ?_, hk.blk h.men (fun e => e5 e.symm), hk.own h.notes (fun k hk e => ?_), h.ltl, h.ltq, h.low⟩
  · have := h.mem.cbB k hk; omega
  · exact h.box.set_ 5 (.int .i64 x)
  · have := h.nB k hk; omega

/-- A note more. -/
theorem QAt.noted (h : QAt gw gm gl gq B b0 sz tr q w cb cs AC cc AN cn) {n : Nte} {w3 : World} {A3 : Option Addr} {c3 : Nat} (hg : w.grownBy w3 (Value.ownBlock (.slice AN q.ns.length cn))) (ho : w3.ownsRow B 119 13 (.slice A3 (q.ns.length + 1) c3) (q.ns.length + 1) (rows (q.ns ++ [n]))) :
    QAt gw gm gl gq B b0 sz tr { q with ns := q.ns ++ [n] } (w3.setCell ⟨gq, 4, none⟩ (.slice A3 (q.ns.length + 1) c3)) cb cs AC cc A3 c3 ∧ Below b0 w (w3.setCell ⟨gq, 4, none⟩ (.slice A3 (q.ns.length + 1) c3)) := by
  have e3 := blk_ne h.box h.mem.words (by decide)
  have e4 := blk_ne h.box h.mem.box (by decide)
  have e5 := blk_ne h.box h.men (by decide)
  have hltq := h.ltq
  have hltl := h.ltl
  have hltw := h.mem.ltw
  have hltm := h.mem.ltm
  have hlow := h.low
  have hnB := h.nB
  have hK : Keep (fun k => Value.ownBlock (.slice AN q.ns.length cn) = some k) w w3 := .of_grown hg (fun k hk => hk)
  have hK4 : Keep (fun k => k = gq) w3 (w3.setCell ⟨gq, 4, none⟩ (.slice A3 (q.ns.length + 1) c3)) := (Keep.refl _ w3).set_ gq 4 _ (.inr rfl)
  have hcbn : ∀ k, cb = some k → ¬ Value.ownBlock (.slice AN q.ns.length cn) = some k := fun k hk e => own_own_ne h.notes h.mem.row (by decide) k e (by rw [h.mem.cb]; exact hk)
  have hlen : (q.ns ++ [n]).length = q.ns.length + 1 := by simp
  refine ⟨⟨(h.mem.keep hK (fun e => by have := hnB _ e; omega) (fun e => by have := hnB _ e; omega) hcbn).keep hK4 (fun e => e3 e.symm) (fun e => e4 e.symm) (fun k hk e => by have := h.mem.cbB k hk; omega), ?_, hK4.blk (hK.blk h.men (fun e => by have := hnB _ e; omega)) (fun e => e5 e.symm), ?_, hltl, hltq, hlow⟩, ?_⟩
  · have hb := (hK.blk h.box (fun e => by have := hnB _ e; omega)).set_ 4 (.slice A3 (q.ns.length + 1) c3)
    show Blk _ gq _ (queL gm sz tr gl q.l.length A3 (q.ns ++ [n]).length c3 q.time)
    rw [hlen]; exact hb
  · show World.ownsRow _ B _ 13 (.slice A3 (q.ns ++ [n]).length c3) (q.ns ++ [n]).length (rows (q.ns ++ [n]))
    rw [hlen]
    exact hK4.own ho (fun k hk e => by have := own_block ho k hk; omega)
  · exact (hK.below (fun k e => by have := hnB _ e; omega) h.base).trans (hK4.below (fun k e => by omega) (Nat.le_trans h.base hK.size))
end

/-- A thread's cells. -/
theorem man_cells {w : World} {g : Nat} {l : List Man} (h : Blk w g 113 (rows l)) {t : Nat} (ht : t < l.length) {x : Man} (hx : l.getD t Man.none = x) :
    w.cell? ⟨g, t * 5, none⟩ = some (.int .i64 x.pc) ∧ w.cell? ⟨g, t * 5 + 1, none⟩ = some (.int .i64 x.seq) ∧ w.cell? ⟨g, t * 5 + 2, none⟩ = some (.int .i64 x.value) ∧ w.cell? ⟨g, t * 5 + 3, none⟩ = some (.int .i64 x.at_) ∧ w.cell? ⟨g, t * 5 + 4, none⟩ = some (.int .i64 x.try_) := by
  have hh := fun j v (hj : (Cellful.cells x)[j]? = some v) => rec_cell (b := g) (o := 0) (w := w) (l := l) (fun k v hk => by rw [Nat.zero_add]; exact h.cell hk) ht hx j v hj
  have e : (Cellful.s Man) = 5 := rfl
  rw [e] at hh
  refine ⟨?_, ?_, ?_, ?_, ?_⟩
  · have := hh 0 _ rfl; simpa using this
  · have := hh 1 _ rfl; simpa using this
  · have := hh 2 _ rfl; simpa using this
  · have := hh 3 _ rfl; simpa using this
  · have := hh 4 _ rfl; simpa using this

/-- One cell of a thread is written. -/
theorem man_put {w : World} {g : Nat} {l : List Man} (h : Blk w g 113 (rows l)) {t : Nat} (ht : t < l.length) (j : Nat) (v : Value) (y : Man) (hj : j < 5) (hy : y.cells = (l.getD t Man.none).cells.set j v) :
    Blk (w.setCell ⟨g, t * 5 + j, none⟩ v) g 113 (rows (l.set t y)) := by
  have h1 := h.set_ (t * 5 + j) v
  have e : (rows l).set (t * 5 + j) v = rows (l.set t y) := rows_set (l := l) ht j v y hj hy
  rw [e] at h1
  exact h1

theorem que_cells {w : World} {gq gm sz tr gl th nn cn : Nat} {AN : Option Addr} {time : Int} (h : Blk w gq 110 (queL gm sz tr gl th AN nn cn time)) :
    w.cell? ⟨gq, 0, none⟩ = some (.pointer (some ⟨gm, 0, none⟩)) ∧ w.cell? ⟨gq, 1, none⟩ = some (.int .i64 sz) ∧ w.cell? ⟨gq, 2, none⟩ = some (.int .i64 tr) ∧ w.cell? ⟨gq, 3, none⟩ = some (.slice (some ⟨gl, 0, none⟩) th th) ∧ w.cell? ⟨gq, 4, none⟩ = some (.slice AN nn cn) ∧ w.cell? ⟨gq, 5, none⟩ = some (.int .i64 time) :=
  ⟨h.cell rfl, h.cell rfl, h.cell rfl, h.cell rfl, h.cell rfl, h.cell rfl⟩

/-- Which threads there are. -/
def madeE (th : Nat) (t : Int) : Int := if t < 0 ∨ (th : Int) ≤ t then 1 else 0

set_option maxHeartbeats 1000000 in
theorem tmade_any (gq gm sz tr gl th nn cn : Nat) (AN : Option Addr) (time t : Int) (w : World) (hb : Blk w gq 110 (queL gm sz tr gl th AN nn cn time)) :
    Calls Try.prog 98 #[.pointer (some ⟨gq, 0, none⟩), .int .i64 t] w (fun e w' => e = .returned (.int .i64 (madeE th t)) ∧ Below w.heap.size w w') := by
  obtain ⟨c0, c1, c2, c3, c4, c5⟩ := que_cells hb
  clear hb
  by_cases h1 : t < 0
  · have HX := Lib.hid h1
    have d1 : decide (t < 0) = true := by simpa using h1
    go_enter Try.func98, Try.ntmps98
    go_wp2
    go_ret
    exact ⟨ret_int (by unfold madeE; rw [if_pos (.inl HX.out)]), Below.refl _ _⟩
  · have d1 : decide (t < 0) = false := by simpa using h1
    by_cases h2 : (th : Int) ≤ t
    · have d2 : decide (t ≥ (th : Int)) = true := by simpa using h2
      have HX := Lib.hid h2
      go_enter Try.func98, Try.ntmps98
      go_wp2
      go_ret
      exact ⟨ret_int (by unfold madeE; rw [if_pos (.inr HX.out)]), Below.refl _ _⟩
    · have HX := Lib.hid (show ¬ (t < 0 ∨ (th : Int) ≤ t) by omega)
      go_enter Try.func98, Try.ntmps98
      go_wp2
      go_ret
      exact ⟨ret_int (by unfold madeE; rw [if_neg HX.out]), Below.refl _ _⟩

end Go.Proofs.Ytmllbailfbjoeaa
