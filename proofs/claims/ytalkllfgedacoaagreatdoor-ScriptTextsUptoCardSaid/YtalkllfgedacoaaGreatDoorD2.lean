/- How calls and what they came to are opened, as arguments. -/
import Derived.Test.YtalkllfgedacoaaGreatDoorD1
import Derived.SizedLaws
import Derived.Test.YtalkllfgedacoaaGreatDoorShelf
import Derived.Lib.ItoaLen
import Derived.Lib.AppendIntMem
import Derived.Lib.LaidTab
import Derived.Deep.RegionHeld3
import Derived.Deep.DeepCutAuto
import Derived.Deep.RegionLaw
import Derived.RowKitTokens
import Derived.Laws.ResultCell
import Derived.Laws.Rows
namespace Go.Proofs.YtalkllfgedacoaaGreatDoor
open Go.ChangeShapes Go.WideShapes Go.ChangeAt Go.RowKit Go.Deep

section
variable {H : Type} {enc : TypeId × Value → H} {P : Program} {w : World} {base : Nat} {spare : Nat → Bool} {held : Bool}

theorem addr_add (b o k : Nat) : (Addr.add ⟨b, o, none⟩ k) = ⟨b, o + k, none⟩ := by
  unfold Addr.add; split
  · simp_all
  · rfl

/-- A field's cells read as its type. -/
theorem fld {e : TypeId} {fs : Array Field} {n : Nat} {cs : List Value} {y : DataW H × List MemPlace} (he : P.underlying e = some (.struct fs)) (h : DataW.trod enc P w base spare held n e cs = some y) (j o c : Nat) (t : TypeId)
    (hj : fs[j]?.map (fun f => (f.offset, f.type)) = some (o, t)) (hc : P.cellsOf t = c) : ∃ y' n', DataW.trod enc P w base spare held n' t ((cs.drop o).take c) = some y' := by
  obtain ⟨xs, m, _, _, _, hlen, hg⟩ := DataW.trod_struct he h
  obtain ⟨f, hf, hp⟩ := Option.map_eq_some_iff.1 hj
  simp only [Prod.mk.injEq] at hp
  obtain ⟨rfl, rfl⟩ := hp
  have h1 := hg j f hf
  have hjl : j < fs.size := (Array.getElem?_eq_some_iff.1 hf).1
  rw [hc, List.getElem?_eq_getElem (by omega)] at h1
  exact ⟨_, m, h1⟩

theorem fld_len {e : TypeId} {fs : Array Field} {n : Nat} {cs : List Value} {y : DataW H × List MemPlace} (he : P.underlying e = some (.struct fs)) (h : DataW.trod enc P w base spare held n e cs = some y) : cs.length = P.cellsOf e := by
  obtain ⟨_, _, _, _, hl, _⟩ := DataW.trod_struct he h
  exact hl

theorem take1 {cs : List Value} {o : Nat} {v : Value} (h : (cs.drop o).take 1 = [v]) : cs[o]? = some v := by
  have := congrArg (fun l : List Value => l[0]?) h
  simpa [List.getElem?_take] using this

theorem leaf_int {t : TypeId} {k : IntKind} {n o : Nat} {cs : List Value} {y : DataW H × List MemPlace} (ht : P.underlying t = some (.int k)) (h : DataW.trod enc P w base spare held n t ((cs.drop o).take 1) = some y) : ∃ z, cs[o]? = some (.int k z) ∧ (Lit.int k z).wf = true := by
  obtain ⟨z, e, _, hw⟩ := DataW.trod_int ht h
  exact ⟨z, take1 e, hw⟩
theorem leaf_bool {t : TypeId} {n o : Nat} {cs : List Value} {y : DataW H × List MemPlace} (ht : P.underlying t = some .bool) (h : DataW.trod enc P w base spare held n t ((cs.drop o).take 1) = some y) : ∃ z, cs[o]? = some (.bool z) := by
  obtain ⟨z, e, _⟩ := DataW.trod_bool ht h
  exact ⟨z, take1 e⟩
theorem leaf_string {t : TypeId} {n o : Nat} {cs : List Value} {y : DataW H × List MemPlace} (ht : P.underlying t = some .string) (h : DataW.trod enc P w base spare held n t ((cs.drop o).take 1) = some y) : ∃ z : ByteArray, cs[o]? = some (.string z) ∧ z.size ≤ maxLen := by
  obtain ⟨z, e, _, hw⟩ := DataW.trod_string ht h
  exact ⟨z, take1 e, hw⟩
/-- A slice's cell, and how the slice itself reads. -/
theorem leaf_slice {t e : TypeId} {n o : Nat} {cs : List Value} {y : DataW H × List MemPlace} (ht : P.underlying t = some (.slice e)) (h : DataW.trod enc P w base spare held n t ((cs.drop o).take 1) = some y) : ∃ A l c, cs[o]? = some (.slice A l c) ∧ DataW.trod enc P w base spare held n t [.slice A l c] = some y := by
  rcases DataW.trod_slice ht h with ⟨hcs, _⟩ | ⟨a, len, cap, _, _, _, _, hcs, _⟩
  · exact ⟨_, _, _, take1 hcs, by rw [← hcs]; exact h⟩
  · exact ⟨_, _, _, take1 hcs, by rw [← hcs]; exact h⟩

theorem part_at {cs : List Value} {o c i : Nat} {v : Value} (h : ((cs.drop o).take c)[i]? = some v) : cs[o + i]? = some v := by
  rw [List.getElem?_take] at h
  split at h
  · simpa using h
  · cases h

/-- A slice of records that came in, as a list. -/
theorem rd_recs {α : Type} [C : Cellful α] (Ok : α → Prop) {t e : TypeId} {n : Nat} {x : Value} {y : DataW H × List MemPlace} (ht : P.underlying t = some (.slice e)) (hC : P.cellsOf e = C.s) (hpos : 0 < C.s)
    (hopen : ∀ (n : Nat) (cs : List Value) (y : DataW H × List MemPlace), DataW.trod enc P w base (fun _ => true) held n e cs = some y → ∃ a : α, cs = C.cells a ∧ Ok a)
    (h : DataW.trod enc P w base (fun _ => true) held n t [x] = some y) :
    ∃ (A : Option Addr) (l : List α) (cap : Nat), x = .slice A l.length cap ∧ Rd w A (rows l) ∧ l.length ≤ maxLen ∧ l.length ≤ cap ∧ (A = none → cap = 0) ∧ ∀ a ∈ l, Ok a := by
  rcases open_slice ht h with ⟨hcs, _⟩ | ⟨a, len, cap, m, n', D, Pl, hcs, _, hl, hm, hmm, _, hi⟩
  · simp only [List.cons.injEq, and_true] at hcs
    exact ⟨none, [], 0, hcs, .inl rfl, by simp, by simp, fun _ => rfl, by simp⟩
  · simp only [List.cons.injEq, and_true] at hcs
    simp only [if_true] at hmm
    rw [hC] at hi
    have hall : ∀ i, i < len → ∃ b : α, (∀ j, j < C.s → w.cell? ((a.add (i * C.s)).add j) = (C.cells b)[j]?) ∧ Ok b := by
      intro i hil
      obtain ⟨cs', hc, ht'⟩ := hi i (by omega)
      obtain ⟨b, rfl, hb⟩ := hopen _ _ _ ht'
      obtain ⟨_, _, hat⟩ := World.cells?_some hc
      exact ⟨b, fun j hj => hat j hj, hb⟩
    have hall' : ∀ i, ∃ b : α, i < len → (∀ j, j < C.s → w.cell? ((a.add (i * C.s)).add j) = (C.cells b)[j]?) ∧ Ok b := fun i => by
      by_cases hil : i < len
      · obtain ⟨b, hb⟩ := hall i hil
        exact ⟨b, fun _ => hb⟩
      · exact ⟨C.dflt, fun h => absurd h hil⟩
    obtain ⟨g, hg⟩ := Classical.axiomOfChoice hall'
    have hlen : ((List.range len).map g).length = len := by simp
    refine ⟨some a, (List.range len).map g, cap, by rw [hlen]; exact hcs, ?_, by omega, by omega, (fun h => by cases h), fun b hb => ?_⟩
    · rcases Nat.eq_zero_or_pos len with h0 | h0
      · left; simp [h0, rows]
      · right
        have c0 := (hg 0 h0).1 0 hpos
        have hsome : ∃ v, (C.cells (g 0))[0]? = some v := ⟨_, List.getElem?_eq_getElem (by rw [C.len]; exact hpos)⟩
        obtain ⟨v0, hv0⟩ := hsome
        rw [hv0] at c0
        obtain ⟨b, o, sp⟩ := a
        have hsp := spot_of_cell c0
        have hsp' : sp = none := by
          cases sp with
          | none => rfl
          | some s => simp [Addr.add] at hsp
        subst hsp'
        rw [addr_add, addr_add] at c0
        refine ⟨b, o, rfl, block_lt_of_cell c0, fun k v hk' => ?_⟩
        have hkl : k < len * C.s := by
          have := (List.getElem?_eq_some_iff.1 hk').1
          rw [rows_length, hlen] at this
          exact this
        have hd : k / C.s * C.s + k % C.s = k := by rw [Nat.mul_comm]; exact Nat.div_add_mod k C.s
        have hq : k / C.s < len := (Nat.div_lt_iff_lt_mul hpos).2 hkl
        have hr : k % C.s < C.s := Nat.mod_lt _ hpos
        have hat := rows_at (l := (List.range len).map g) (k := k / C.s) (by omega) (k % C.s) hr
        rw [hd, hk'] at hat
        have hgd : ((List.range len).map g).getD (k / C.s) C.dflt = g (k / C.s) := by
          simp [List.getD, hq]
        rw [hgd] at hat
        have hck := (hg (k / C.s) hq).1 (k % C.s) hr
        rw [addr_add, addr_add, Nat.add_assoc, hd, ← hat] at hck
        exact hck
    · simp only [List.mem_map, List.mem_range] at hb
      obtain ⟨i, hil, rfl⟩ := hb
      exact (hg i hil).2
end

end Go.Proofs.YtalkllfgedacoaaGreatDoor

namespace Go.Proofs.YtalkllfgedacoaaGreatDoor
open Go.ChangeShapes Go.WideShapes Go.ChangeAt Go.RowKit Go.Deep

section
variable {H : Type} {enc : TypeId × Value → H} {P : Program} {w : World} {base : Nat} {spare : Nat → Bool} {held : Bool}

/-- All that it reads is within the form's reach. -/
def Fit (P : Program) (t : TypeId) (d : DataW H) : Prop := (d.weights P t).all (· ≤ reachBytes) = true

theorem fit_cons {t : TypeId} {ts : List TypeId} {d : DataW H} {ds : List (DataW H)} (h : (DataW.weightsEach P (t :: ts) (d :: ds)).all (· ≤ reachBytes) = true) : Fit P t d ∧ (DataW.weightsEach P ts ds).all (· ≤ reachBytes) = true := by
  simp only [DataW.weightsEach, List.all_append, Bool.and_eq_true] at h
  exact h

/-- A field's cells read as its type. -/
theorem fldW {e : TypeId} {fs : Array Field} {n : Nat} {cs : List Value} {y : DataW H × List MemPlace} (he : P.underlying e = some (.struct fs)) (h : DataW.trod enc P w base spare held n e cs = some y) (hf : Fit P e y.1) (j o c : Nat) (t : TypeId)
    (hj : fs[j]?.map (fun f => (f.offset, f.type)) = some (o, t)) (hc : P.cellsOf t = c) : ∃ y' n', DataW.trod enc P w base spare held n' t ((cs.drop o).take c) = some y' ∧ Fit P t y'.1 := by
  obtain ⟨xs, m, _, hx, _, hlen, hg⟩ := DataW.trod_struct he h
  obtain ⟨f, hff, hp⟩ := Option.map_eq_some_iff.1 hj
  simp only [Prod.mk.injEq] at hp
  obtain ⟨rfl, rfl⟩ := hp
  have h1 := hg j f hff
  have hjl : j < fs.size := (Array.getElem?_eq_some_iff.1 hff).1
  rw [hc, List.getElem?_eq_getElem (by omega)] at h1
  refine ⟨_, m, h1, ?_⟩
  subst hx
  unfold Fit at hf ⊢
  simp only [DataW.weights, he] at hf
  refine List.all_eq_true.2 fun a ha => List.all_eq_true.1 hf a (DataW.weights_mem_each (j := j) (t := f.type) ?_ ?_ a ha)
  · rw [List.getElem?_map, Array.getElem?_toList, hff]; rfl
  · rw [List.getElem?_map, List.getElem?_eq_getElem (by omega)]; rfl

theorem fit_elems {e : TypeId} : ∀ (l : List (DataW H)), (DataW.weightsAll P e l).all (· ≤ reachBytes) = true → ∀ d ∈ l, Fit P e d
  | [], _, _, h => by simp at h
  | a :: l, h, d, hd => by
    simp only [DataW.weightsAll, List.all_append, Bool.and_eq_true] at h
    rcases List.mem_cons.1 hd with rfl | hd
    · exact h.1
    · exact fit_elems l h.2 d hd

/-- A slice of records that came in, as a list. -/
theorem rd_recsW {α : Type} [C : Cellful α] (Ok : α → Prop) {t e : TypeId} {n : Nat} {x : Value} {y : DataW H × List MemPlace} (ht : P.underlying t = some (.slice e)) (hC : P.cellsOf e = C.s) (hpos : 0 < C.s)
    (hopen : ∀ (n : Nat) (cs : List Value) (y : DataW H × List MemPlace), DataW.trod enc P w base (fun _ => true) held n e cs = some y → Fit P e y.1 → ∃ a : α, cs = C.cells a ∧ Ok a)
    (h : DataW.trod enc P w base (fun _ => true) held n t [x] = some y) (hf : Fit P t y.1) :
    ∃ (A : Option Addr) (l : List α) (cap : Nat), x = .slice A l.length cap ∧ Rd w A (rows l) ∧ l.length ≤ maxLen ∧ l.length ≤ cap ∧ (A = none → cap = 0) ∧ (∀ a ∈ l, Ok a) ∧ cap * P.bytesOf e ≤ reachBytes := by
  rcases open_slice ht h with ⟨hcs, _⟩ | ⟨a, len, cap, m, n', D, Pl, hcs, _, hl, hm, hmm, hx, hi⟩
  · simp only [List.cons.injEq, and_true] at hcs
    exact ⟨none, [], 0, hcs, .inl rfl, by simp, by simp, fun _ => rfl, by simp, by simp⟩
  · simp only [List.cons.injEq, and_true] at hcs
    simp only [if_true] at hmm
    subst hmm
    rw [hx] at hf
    unfold Fit at hf
    simp only [DataW.weights, ht, List.all_cons, List.all_append, Bool.and_eq_true, decide_eq_true_eq, List.length_map, List.length_range] at hf
    obtain ⟨hsz, hf1, hf2⟩ := hf
    have hfit : ∀ i, i < len → Fit P e (D i) := fun i hil => fit_elems _ hf1 (D i) (List.mem_map.2 ⟨i, List.mem_range.2 hil, rfl⟩)
    rw [hC] at hi
    have hall : ∀ i, i < len → ∃ b : α, (∀ j, j < C.s → w.cell? ((a.add (i * C.s)).add j) = (C.cells b)[j]?) ∧ Ok b := by
      intro i hil
      obtain ⟨cs', hc, ht'⟩ := hi i (by omega)
      obtain ⟨b, rfl, hb⟩ := hopen _ _ _ ht' (hfit i hil)
      obtain ⟨_, _, hat⟩ := World.cells?_some hc
      exact ⟨b, fun j hj => hat j hj, hb⟩
    have hall' : ∀ i, ∃ b : α, i < len → (∀ j, j < C.s → w.cell? ((a.add (i * C.s)).add j) = (C.cells b)[j]?) ∧ Ok b := fun i => by
      by_cases hil : i < len
      · obtain ⟨b, hb⟩ := hall i hil
        exact ⟨b, fun _ => hb⟩
      · exact ⟨C.dflt, fun h => absurd h hil⟩
    obtain ⟨g, hg⟩ := Classical.axiomOfChoice hall'
    have hlen : ((List.range len).map g).length = len := by simp
    refine ⟨some a, (List.range len).map g, m, by rw [hlen]; exact hcs, ?_, by omega, by omega, (fun h => by cases h), fun b hb => ?_, by rw [show len + (m - len) = m by omega] at hsz; exact hsz⟩
    · rcases Nat.eq_zero_or_pos len with h0 | h0
      · left; simp [h0, rows]
      · right
        have c0 := (hg 0 h0).1 0 hpos
        have hsome : ∃ v, (C.cells (g 0))[0]? = some v := ⟨_, List.getElem?_eq_getElem (by rw [C.len]; exact hpos)⟩
        obtain ⟨v0, hv0⟩ := hsome
        rw [hv0] at c0
        obtain ⟨b, o, sp⟩ := a
        have hsp := spot_of_cell c0
        have hsp' : sp = none := by
          cases sp with
          | none => rfl
          | some s => simp [Addr.add] at hsp
        subst hsp'
        rw [addr_add, addr_add] at c0
        refine ⟨b, o, rfl, block_lt_of_cell c0, fun k v hk' => ?_⟩
        have hkl : k < len * C.s := by
          have := (List.getElem?_eq_some_iff.1 hk').1
          rw [rows_length, hlen] at this
          exact this
        have hd : k / C.s * C.s + k % C.s = k := by rw [Nat.mul_comm]; exact Nat.div_add_mod k C.s
        have hq : k / C.s < len := (Nat.div_lt_iff_lt_mul hpos).2 hkl
        have hr : k % C.s < C.s := Nat.mod_lt _ hpos
        have hat := rows_at (l := (List.range len).map g) (k := k / C.s) (by omega) (k % C.s) hr
        rw [hd, hk'] at hat
        have hgd : ((List.range len).map g).getD (k / C.s) C.dflt = g (k / C.s) := by
          simp [List.getD, hq]
        rw [hgd] at hat
        have hck := (hg (k / C.s) hq).1 (k % C.s) hr
        rw [addr_add, addr_add, Nat.add_assoc, hd, ← hat] at hck
        exact hck
    · simp only [List.mem_map, List.mem_range] at hb
      obtain ⟨i, hil, rfl⟩ := hb
      exact (hg i hil).2

theorem leaf_sliceW {t e : TypeId} {n o : Nat} {cs : List Value} {y : DataW H × List MemPlace} (ht : P.underlying t = some (.slice e)) (h : DataW.trod enc P w base spare held n t ((cs.drop o).take 1) = some y) : ∃ x, cs[o]? = some x ∧ DataW.trod enc P w base spare held n t [x] = some y := by
  obtain ⟨A, l, c, e1, e2⟩ := leaf_slice ht h
  exact ⟨_, e1, e2⟩
end

end Go.Proofs.YtalkllfgedacoaaGreatDoor

namespace Go.Proofs.YtalkllfgedacoaaGreatDoor
open Go.RowKit Go.Sort

/-- One thing that a call may do with a channel. -/
structure Cse where
  (dir handle value : Int)
deriving DecidableEq
def Cse.cells (a : Cse) : List Value := [.int .i64 a.dir, .int .i64 a.handle, .int .i64 a.value]
def Cse.none : Cse := ⟨0, 0, 0⟩
abbrev cseV (a : Cse) : Value := .agg #[.int .i64 a.dir, .int .i64 a.handle, .int .i64 a.value]
instance : Cellful Cse where
  cells := Cse.cells
  s := 3
  dflt := Cse.none
  len := fun _ => rfl
  one := fun a u hu => by
    simp only [Cse.cells, List.mem_cons, List.not_mem_nil, or_false] at hu
    rcases hu with rfl | rfl | rfl <;> rfl

theorem cse_cells {w : World} {b o : Nat} {l : List Cse} (hc : ∀ k v, (rows l)[k]? = some v → w.cell? ⟨b, o + k, none⟩ = some v) {k : Nat} (hk : k < l.length) {x : Cse} (hx : l.getD k Cse.none = x) :
    w.cell? ⟨b, o + k * 3, none⟩ = some (.int .i64 x.dir) ∧ w.cell? ⟨b, o + k * 3 + 1, none⟩ = some (.int .i64 x.handle) ∧ w.cell? ⟨b, o + k * 3 + 2, none⟩ = some (.int .i64 x.value) := by
  have h := rec_cell hc hk hx
  exact ⟨h 0 _ rfl, h 1 _ rfl, h 2 _ rfl⟩

/-- A call. -/
structure Reqr where
  (kind arg value : Int)
  (dflt : Bool)
  (A : Option Addr)
  (n c : Nat)
abbrev reqV (q : Reqr) : Value := .agg #[.int .i64 q.kind, .int .i64 q.arg, .int .i64 q.value, .bool q.dflt, .slice q.A q.n q.c]
def Reqr.cells (q : Reqr) : List Value := [.int .i64 q.kind, .int .i64 q.arg, .int .i64 q.value, .bool q.dflt, .slice q.A q.n q.c]

/-- Its cases lie so. -/
structure ReqAt (w : World) (q : Reqr) (l : List Cse) : Prop where
  len : l.length = q.n
  rd : Rd w q.A (rows l)
theorem ReqAt.below {w w' : World} {q : Reqr} {l : List Cse} (h : ReqAt w q l) (hb : Below w.heap.size w w') : ReqAt w' q l := ⟨h.len, h.rd.below hb⟩

def selS : ByteArray := ⟨#[115, 101, 108, 101, 99, 116]⟩
def tryS (d : Bool) : ByteArray := if d then ⟨#[116, 114, 121]⟩ else ⟨#[]⟩
def namedS (q : Reqr) (l : List Cse) : ByteArray :=
  if q.n = 1 then (if (l.getD 0 Cse.none).dir = 1 then tryS q.dflt ++ ⟨#[115, 101, 110, 100]⟩ else if (l.getD 0 Cse.none).dir = 2 then tryS q.dflt ++ ⟨#[114, 101, 99, 118]⟩ else selS) else selS
def nameS (q : Reqr) (l : List Cse) : ByteArray :=
  if q.kind = 3 then namedS q l
  else if q.kind = 1 then ⟨#[109, 97, 107, 101]⟩
  else if q.kind = 2 then ⟨#[102, 114, 101, 101]⟩
  else if q.kind = 4 then ⟨#[99, 108, 111, 115, 101]⟩
  else if q.kind = 5 then ⟨#[108, 101, 110]⟩
  else if q.kind = 6 then ⟨#[99, 97, 112]⟩
  else if q.kind = 7 then ⟨#[99, 97, 110, 99, 101, 108]⟩
  else if q.kind = 8 then ⟨#[112, 117, 116]⟩
  else if q.kind = 9 then ⟨#[116, 97, 107, 101]⟩
  else ⟨#[]⟩

theorem reqBox {w : World} {g : Nat} {q : Reqr} (h : Blk w g 24 q.cells) :
    w.cell? ⟨g, 0, none⟩ = some (.int .i64 q.kind) ∧ w.cell? ⟨g, 1, none⟩ = some (.int .i64 q.arg) ∧ w.cell? ⟨g, 2, none⟩ = some (.int .i64 q.value) ∧ w.cell? ⟨g, 3, none⟩ = some (.bool q.dflt) ∧ w.cell? ⟨g, 4, none⟩ = some (.slice q.A q.n q.c) :=
  ⟨h.cell rfl, h.cell rfl, h.cell rfl, h.cell rfl, h.cell rfl⟩

set_option maxHeartbeats 4000000 in
set_option maxRecDepth 100000 in
theorem named_any (q : Reqr) (l : List Cse) (w : World) (h : ReqAt w q l) :
    Calls Tryz.prog 97 #[reqV q] w fun e w' => e = .returned (.string (namedS q l)) ∧ Below w.heap.size w w' := by
  unfold reqV
  by_cases h1 : q.n = 1
  · have HN := Lib.hid h1
    obtain ⟨b, o, hA, hbl, hc⟩ := h.rd.at_ (by rw [rows_length, h.len, h1]; decide)
    have hxx : l.getD 0 Cse.none = l.getD 0 Cse.none := rfl
    obtain ⟨c0, _, _⟩ := cse_cells hc (k := 0) (by rw [h.len, h1]; decide) hxx
    simp only [Nat.zero_mul, Nat.add_zero] at c0
    have c0' : ∀ ob, (w.alloc ob).cell? ⟨b, o, none⟩ = some (.int .i64 (l.getD 0 Cse.none).dir) := fun ob => by rw [World.cell?_alloc_lt _ _ _ (by exact hbl)]; exact c0
    have HNS : RowKit.Hid (namedS q l = if (l.getD 0 Cse.none).dir = 1 then tryS q.dflt ++ ⟨#[115, 101, 110, 100]⟩ else if (l.getD 0 Cse.none).dir = 2 then tryS q.dflt ++ ⟨#[114, 101, 99, 118]⟩ else selS) := Lib.hid (by unfold namedS; rw [if_pos h1])
    generalize (l.getD 0 Cse.none).dir = d at *
    clear h hxx hc
    rw [hA, h1]
    have hne : ¬ b = w.heap.size := by omega
    cases hd : q.dflt <;> by_cases d1 : d = 1
    all_goals first
      | (have b1 : (d == 1) = true := by simp [d1]
         have HD := Lib.hid d1
         clear d1
         go_enter Tryz.func97, Tryz.ntmps97
         go_wp2
         go_ret
         exact ⟨by rw [HNS.out, if_pos HD.out, hd]; rfl, (Below.refl _ _).alloc (Nat.le_refl _) _⟩)
      | (have b1 : (d == 1) = false := by simp [d1]
         have HD := Lib.hid d1
         clear d1
         by_cases d2 : d = 2
         · have b2 : (d == 2) = true := by simp [d2]
           have HD2 := Lib.hid d2
           clear d2
           go_enter Tryz.func97, Tryz.ntmps97
           go_wp2
           go_ret
           exact ⟨by rw [HNS.out, if_neg HD.out, if_pos HD2.out, hd]; rfl, (Below.refl _ _).alloc (Nat.le_refl _) _⟩
         · have b2 : (d == 2) = false := by simp [d2]
           have HD2 := Lib.hid d2
           clear d2
           go_enter Tryz.func97, Tryz.ntmps97
           go_wp2
           go_ret
           exact ⟨by rw [HNS.out, if_neg HD.out, if_neg HD2.out]; rfl, (Below.refl _ _).alloc (Nat.le_refl _) _⟩)
  · have HN := Lib.hid h1
    have b1 : ((q.n : Int) != 1) = true := by simp; omega
    clear h
    go_enter Tryz.func97, Tryz.ntmps97
    go_wp2
    go_ret
    exact ⟨by unfold namedS; rw [if_neg HN.out]; rfl, (Below.refl _ _).alloc (Nat.le_refl _) _⟩

set_option maxHeartbeats 4000000 in
set_option maxRecDepth 100000 in
theorem Name_sel (q : Reqr) (l : List Cse) (w : World) (h : ReqAt w q l) (hk : q.kind = 3) :
    Calls Tryz.prog 63 #[reqV q] w fun e w' => e = .returned (.string (nameS q l)) ∧ Below w.heap.size w w' := by
  have HM := Lib.hid (fun W h => named_any q l W h)
  have HR := Lib.hid h
  have HNS : RowKit.Hid (nameS q l = namedS q l) := Lib.hid (by unfold nameS; rw [if_pos hk])
  unfold reqV at HM ⊢
  rw [hk] at HM ⊢
  clear h hk
  go_enter Tryz.func63, Tryz.ntmps63
  go_wp2_with (first | (go_at_call 97; refine (HM.out _ (HR.out.below ((Below.refl _ _).alloc (Nat.le_refl _) _))).mono ?_; rintro e w1 ⟨rfl, hb1⟩; have HB := Lib.hid hb1; clear hb1))
  go_ret
  exact ⟨by rw [HNS.out]; rfl, ((Below.refl _ _).alloc (Nat.le_refl _) _).trans (HB.out.mono (by simp))⟩

set_option maxHeartbeats 4000000 in
set_option maxRecDepth 100000 in
theorem Name_k1 (q : Reqr) (l : List Cse) (w : World) (hk : q.kind = 1) :
    Calls Tryz.prog 63 #[reqV q] w fun e w' => e = .returned (.string (nameS q l)) ∧ Below w.heap.size w w' := by
  have HNS : RowKit.Hid (nameS q l = ⟨#[109, 97, 107, 101]⟩) := Lib.hid (by unfold nameS; rw [if_neg (by omega), if_pos hk])
  unfold reqV
  rw [hk]
  clear hk
  go_enter Tryz.func63, Tryz.ntmps63
  go_wp2
  go_ret
  exact ⟨by rw [HNS.out]; rfl, (Below.refl _ _).alloc (Nat.le_refl _) _⟩

set_option maxHeartbeats 4000000 in
set_option maxRecDepth 100000 in
theorem Name_k2 (q : Reqr) (l : List Cse) (w : World) (hk : q.kind = 2) :
    Calls Tryz.prog 63 #[reqV q] w fun e w' => e = .returned (.string (nameS q l)) ∧ Below w.heap.size w w' := by
  have HNS : RowKit.Hid (nameS q l = ⟨#[102, 114, 101, 101]⟩) := Lib.hid (by unfold nameS; rw [if_neg (by omega), if_neg (by omega), if_pos hk])
  unfold reqV
  rw [hk]
  clear hk
  go_enter Tryz.func63, Tryz.ntmps63
  go_wp2
  go_ret
  exact ⟨by rw [HNS.out]; rfl, (Below.refl _ _).alloc (Nat.le_refl _) _⟩

set_option maxHeartbeats 4000000 in
set_option maxRecDepth 100000 in
theorem Name_k4 (q : Reqr) (l : List Cse) (w : World) (hk : q.kind = 4) :
    Calls Tryz.prog 63 #[reqV q] w fun e w' => e = .returned (.string (nameS q l)) ∧ Below w.heap.size w w' := by
  have HNS : RowKit.Hid (nameS q l = ⟨#[99, 108, 111, 115, 101]⟩) := Lib.hid (by unfold nameS; rw [if_neg (by omega), if_neg (by omega), if_neg (by omega), if_pos hk])
  unfold reqV
  rw [hk]
  clear hk
  go_enter Tryz.func63, Tryz.ntmps63
  go_wp2
  go_ret
  exact ⟨by rw [HNS.out]; rfl, (Below.refl _ _).alloc (Nat.le_refl _) _⟩

set_option maxHeartbeats 4000000 in
set_option maxRecDepth 100000 in
theorem Name_k5 (q : Reqr) (l : List Cse) (w : World) (hk : q.kind = 5) :
    Calls Tryz.prog 63 #[reqV q] w fun e w' => e = .returned (.string (nameS q l)) ∧ Below w.heap.size w w' := by
  have HNS : RowKit.Hid (nameS q l = ⟨#[108, 101, 110]⟩) := Lib.hid (by unfold nameS; rw [if_neg (by omega), if_neg (by omega), if_neg (by omega), if_neg (by omega), if_pos hk])
  unfold reqV
  rw [hk]
  clear hk
  go_enter Tryz.func63, Tryz.ntmps63
  go_wp2
  go_ret
  exact ⟨by rw [HNS.out]; rfl, (Below.refl _ _).alloc (Nat.le_refl _) _⟩

set_option maxHeartbeats 4000000 in
set_option maxRecDepth 100000 in
theorem Name_k6 (q : Reqr) (l : List Cse) (w : World) (hk : q.kind = 6) :
    Calls Tryz.prog 63 #[reqV q] w fun e w' => e = .returned (.string (nameS q l)) ∧ Below w.heap.size w w' := by
  have HNS : RowKit.Hid (nameS q l = ⟨#[99, 97, 112]⟩) := Lib.hid (by unfold nameS; rw [if_neg (by omega), if_neg (by omega), if_neg (by omega), if_neg (by omega), if_neg (by omega), if_pos hk])
  unfold reqV
  rw [hk]
  clear hk
  go_enter Tryz.func63, Tryz.ntmps63
  go_wp2
  go_ret
  exact ⟨by rw [HNS.out]; rfl, (Below.refl _ _).alloc (Nat.le_refl _) _⟩

set_option maxHeartbeats 4000000 in
set_option maxRecDepth 100000 in
theorem Name_k7 (q : Reqr) (l : List Cse) (w : World) (hk : q.kind = 7) :
    Calls Tryz.prog 63 #[reqV q] w fun e w' => e = .returned (.string (nameS q l)) ∧ Below w.heap.size w w' := by
  have HNS : RowKit.Hid (nameS q l = ⟨#[99, 97, 110, 99, 101, 108]⟩) := Lib.hid (by unfold nameS; rw [if_neg (by omega), if_neg (by omega), if_neg (by omega), if_neg (by omega), if_neg (by omega), if_neg (by omega), if_pos hk])
  unfold reqV
  rw [hk]
  clear hk
  go_enter Tryz.func63, Tryz.ntmps63
  go_wp2
  go_ret
  exact ⟨by rw [HNS.out]; rfl, (Below.refl _ _).alloc (Nat.le_refl _) _⟩

set_option maxHeartbeats 4000000 in
set_option maxRecDepth 100000 in
theorem Name_k8 (q : Reqr) (l : List Cse) (w : World) (hk : q.kind = 8) :
    Calls Tryz.prog 63 #[reqV q] w fun e w' => e = .returned (.string (nameS q l)) ∧ Below w.heap.size w w' := by
  have HNS : RowKit.Hid (nameS q l = ⟨#[112, 117, 116]⟩) := Lib.hid (by unfold nameS; rw [if_neg (by omega), if_neg (by omega), if_neg (by omega), if_neg (by omega), if_neg (by omega), if_neg (by omega), if_neg (by omega), if_pos hk])
  unfold reqV
  rw [hk]
  clear hk
  go_enter Tryz.func63, Tryz.ntmps63
  go_wp2
  go_ret
  exact ⟨by rw [HNS.out]; rfl, (Below.refl _ _).alloc (Nat.le_refl _) _⟩

set_option maxHeartbeats 4000000 in
set_option maxRecDepth 100000 in
theorem Name_k9 (q : Reqr) (l : List Cse) (w : World) (hk : q.kind = 9) :
    Calls Tryz.prog 63 #[reqV q] w fun e w' => e = .returned (.string (nameS q l)) ∧ Below w.heap.size w w' := by
  have HNS : RowKit.Hid (nameS q l = ⟨#[116, 97, 107, 101]⟩) := Lib.hid (by unfold nameS; rw [if_neg (by omega), if_neg (by omega), if_neg (by omega), if_neg (by omega), if_neg (by omega), if_neg (by omega), if_neg (by omega), if_neg (by omega), if_pos hk])
  unfold reqV
  rw [hk]
  clear hk
  go_enter Tryz.func63, Tryz.ntmps63
  go_wp2
  go_ret
  exact ⟨by rw [HNS.out]; rfl, (Below.refl _ _).alloc (Nat.le_refl _) _⟩

set_option maxHeartbeats 4000000 in
set_option maxRecDepth 100000 in
theorem Name_no (q : Reqr) (l : List Cse) (w : World) (hk : ¬ (1 ≤ q.kind ∧ q.kind ≤ 9)) :
    Calls Tryz.prog 63 #[reqV q] w fun e w' => e = .returned (.string (nameS q l)) ∧ Below w.heap.size w w' := by
  have HNS : RowKit.Hid (nameS q l = ⟨#[]⟩) := Lib.hid (by unfold nameS; rw [if_neg (by omega), if_neg (by omega), if_neg (by omega), if_neg (by omega), if_neg (by omega), if_neg (by omega), if_neg (by omega), if_neg (by omega), if_neg (by omega)])
  unfold reqV
  have b1 : (q.kind == 1) = false := by simp; omega
  have b2 : (q.kind == 2) = false := by simp; omega
  have b3 : (q.kind == 3) = false := by simp; omega
  have b4 : (q.kind == 4) = false := by simp; omega
  have b5 : (q.kind == 5) = false := by simp; omega
  have b6 : (q.kind == 6) = false := by simp; omega
  have b7 : (q.kind == 7) = false := by simp; omega
  have b8 : (q.kind == 8) = false := by simp; omega
  have b9 : (q.kind == 9) = false := by simp; omega
  clear hk
  go_enter Tryz.func63, Tryz.ntmps63
  go_wp2
  go_ret
  exact ⟨by rw [HNS.out]; rfl, (Below.refl _ _).alloc (Nat.le_refl _) _⟩

theorem Name_any (q : Reqr) (l : List Cse) (w : World) (h : ReqAt w q l) :
    Calls Tryz.prog 63 #[reqV q] w fun e w' => e = .returned (.string (nameS q l)) ∧ Below w.heap.size w w' := by
  rcases (show q.kind = 3 ∨ q.kind = 1 ∨ q.kind = 2 ∨ q.kind = 4 ∨ q.kind = 5 ∨ q.kind = 6 ∨ q.kind = 7 ∨ q.kind = 8 ∨ q.kind = 9 ∨ ¬ (1 ≤ q.kind ∧ q.kind ≤ 9) by omega) with hk | hk | hk | hk | hk | hk | hk | hk | hk | hk
  · exact Name_sel q l w h hk
  · exact Name_k1 q l w hk
  · exact Name_k2 q l w hk
  · exact Name_k4 q l w hk
  · exact Name_k5 q l w hk
  · exact Name_k6 q l w hk
  · exact Name_k7 q l w hk
  · exact Name_k8 q l w hk
  · exact Name_k9 q l w hk
  · exact Name_no q l w hk

def recvB (l : List Cse) (k : Int) : Bool := decide (0 ≤ k) && decide (k < l.length) && (l.getD k.toNat Cse.none).dir == 2

end Go.Proofs.YtalkllfgedacoaaGreatDoor

namespace Go.Proofs.YtalkllfgedacoaaGreatDoor
open Go.RowKit Go.Sort Go.Extern

/-- The library's table stands as it was laid. -/
abbrev TabT (w : World) : Prop := Lib.TabIs Tryz.prog w "internal/strconv.uint64pow10" .u64 Lib.pow10Tab
theorem TabT.below {w w' : World} (h : TabT w) (hb : Below w.heap.size w w') : TabT w' := Lib.tabBelow_of_tabIs h w' hb

def itoaS (n : Int) : ByteArray := ⟨(Lib.itoa n).toArray⟩
def In64 (n : Int) : Prop := -9223372036854775808 ≤ n ∧ n ≤ 9223372036854775807

theorem Itoa_any (n : Int) (hn : In64 n) (w : World) (ht : TabT w) :
    Calls Tryz.prog 65 #[.int .i64 n] w fun e w' => e = .returned (.string (itoaS n)) ∧ Below w.heap.size w w' := by
  refine (Tryz.strconv_Itoa n hn.1 hn.2 w ht).mono ?_
  rintro e w' ⟨rfl, k, os, rfl⟩
  exact ⟨rfl, Lib.below_grow _ _ (Nat.le_refl _) _ _⟩

theorem itoaS_size {n : Int} (hn : In64 n) : (itoaS n).size ≤ 21 := by
  have := Lib.itoa_length_le n hn.1 hn.2
  simpa [itoaS, ByteArray.size] using this

end Go.Proofs.YtalkllfgedacoaaGreatDoor

namespace Go.Proofs.YtalkllfgedacoaaGreatDoor
open Go.RowKit Go.Sort

/-- What a call came to, as told. -/
structure Resr where
  (seq case_ code value : Int)
abbrev rsV (r : Resr) : Value := .agg #[.int .i64 r.seq, .int .i64 r.case_, .int .i64 r.code, .int .i64 r.value]
def Resr.cells (r : Resr) : List Value := [.int .i64 r.seq, .int .i64 r.case_, .int .i64 r.code, .int .i64 r.value]
abbrev outV (v c : Int) (ok : Bool) (err : Value) : Value := .agg #[.int .i64 v, .int .i64 c, .bool ok, err]
def outC (v c : Int) (ok : Bool) (err : Value) : List Value := [.int .i64 v, .int .i64 c, .bool ok, err]
def thrS : ByteArray := ⟨#[116, 104, 114, 101, 97, 100]⟩

theorem rsBox {w : World} {g : Nat} {r : Resr} (h : Blk w g 36 r.cells) :
    w.cell? ⟨g, 0, none⟩ = some (.int .i64 r.seq) ∧ w.cell? ⟨g, 1, none⟩ = some (.int .i64 r.case_) ∧ w.cell? ⟨g, 2, none⟩ = some (.int .i64 r.code) ∧ w.cell? ⟨g, 3, none⟩ = some (.int .i64 r.value) :=
  ⟨h.cell rfl, h.cell rfl, h.cell rfl, h.cell rfl⟩
def HandlesOk (l : List Cse) : Prop := ∀ a ∈ l, In64 a.handle

end Go.Proofs.YtalkllfgedacoaaGreatDoor

namespace Go.Proofs.YtalkllfgedacoaaGreatDoor
open Go.ChangeShapes Go.WideShapes Go.ChangeAt Go.RowKit Go.Deep

section
variable {H : Type} {enc : TypeId × Value → H} {w : World} {base : Nat} {held : Bool}

theorem in64_of {z : Int} (h : (Lit.int .i64 z).wf = true) : In64 z := by
  exact bounds_i64 h

set_option maxRecDepth 100000 in
theorem int_arg {t : TypeId} {v : Value} {d : DataW H} {p : List MemPlace} (ht : Tryz.prog.underlying t = some (.int .i64)) (hv : Value.okWide Tryz.prog w .any base t v) (h : DataW.Trod enc Tryz.prog w 0 (fun _ => true) held t v d p) :
    ∃ z : Int, v = .int .i64 z ∧ d = .lit (.int .i64 z) ∧ In64 z := by
  obtain ⟨z, e1, e2, _, hw⟩ := open_int ht hv h
  exact ⟨z, e1, e2, in64_of hw⟩

theorem open_case {n : Nat} {cs : List Value} {y : DataW H × List MemPlace} (h : DataW.trod enc Tryz.prog w 0 (fun _ => true) held n 110 cs = some y) : ∃ a : Cse, cs = a.cells ∧ In64 a.dir ∧ In64 a.handle ∧ In64 a.value := by
  have hl := fld_len Tryz.underlying110 h
  rw [show Tryz.prog.cellsOf 110 = 3 by kernel_rfl] at hl
  have c1 : Tryz.prog.cellsOf 3 = 1 := by kernel_rfl
  obtain ⟨_, _, h0⟩ := fld Tryz.underlying110 h 0 0 1 3 rfl c1
  obtain ⟨_, _, h1⟩ := fld Tryz.underlying110 h 1 1 1 3 rfl c1
  obtain ⟨_, _, h2⟩ := fld Tryz.underlying110 h 2 2 1 3 rfl c1
  obtain ⟨z0, e0, w0⟩ := leaf_int Tryz.underlying3 h0
  obtain ⟨z1, e1, w1⟩ := leaf_int Tryz.underlying3 h1
  obtain ⟨z2, e2, w2⟩ := leaf_int Tryz.underlying3 h2
  refine ⟨⟨z0, z1, z2⟩, ?_, in64_of w0, in64_of w1, in64_of w2⟩
  match cs, hl with
  | [a0, a1, a2], _ =>
    simp at e0 e1 e2
    subst e0 e1 e2
    rfl

theorem open_req {n : Nat} {cs : List Value} {y : DataW H × List MemPlace} (h : DataW.trod enc Tryz.prog w 0 (fun _ => true) held n 24 cs = some y) (hf : Fit Tryz.prog 24 y.1) :
    ∃ (q : Reqr) (l : List Cse), cs = q.cells ∧ ReqAt w q l ∧ (∀ a ∈ l, In64 a.dir ∧ In64 a.handle ∧ In64 a.value) ∧ l.length * 24 ≤ 140737488351232 ∧ q.n ≤ q.c ∧ In64 q.kind ∧ In64 q.arg ∧ In64 q.value := by
  have hl := fld_len Tryz.underlying24 h
  rw [show Tryz.prog.cellsOf 24 = 5 by kernel_rfl] at hl
  have c1 : Tryz.prog.cellsOf 3 = 1 := by kernel_rfl
  have cb : Tryz.prog.cellsOf 4 = 1 := by kernel_rfl
  have cs1 : Tryz.prog.cellsOf 22 = 1 := by kernel_rfl
  obtain ⟨_, _, h0⟩ := fld Tryz.underlying24 h 0 0 1 3 rfl c1
  obtain ⟨_, _, h1⟩ := fld Tryz.underlying24 h 1 1 1 3 rfl c1
  obtain ⟨_, _, h2⟩ := fld Tryz.underlying24 h 2 2 1 3 rfl c1
  obtain ⟨_, _, h3⟩ := fld Tryz.underlying24 h 3 3 1 4 rfl cb
  obtain ⟨y4, _, h4, f4⟩ := fldW Tryz.underlying24 h hf 4 4 1 22 rfl cs1
  obtain ⟨z0, e0, w0⟩ := leaf_int Tryz.underlying3 h0
  obtain ⟨z1, e1, w1⟩ := leaf_int Tryz.underlying3 h1
  obtain ⟨z2, e2, w2⟩ := leaf_int Tryz.underlying3 h2
  obtain ⟨z3, e3⟩ := leaf_bool Tryz.underlying4 h3
  obtain ⟨x4, e4, h4'⟩ := leaf_sliceW Tryz.underlying22 h4
  obtain ⟨A, l, cap, rfl, hR, _, hcap, _, hok, hsz⟩ := rd_recsW (α := Cse) (fun a => In64 a.dir ∧ In64 a.handle ∧ In64 a.value) Tryz.underlying22 (by kernel_rfl) (by decide) (fun n cs y h _ => open_case h) h4' f4
  rw [show Tryz.prog.bytesOf 110 = 24 by kernel_rfl] at hsz
  refine ⟨⟨z0, z1, z2, z3, A, l.length, cap⟩, l, ?_, ⟨rfl, hR⟩, hok, ?_, hcap, in64_of w0, in64_of w1, in64_of w2⟩
  · match cs, hl with
    | [a0, a1, a2, a3, a4], _ =>
      simp at e0 e1 e2 e3 e4
      subst e0 e1 e2 e3 e4
      rfl
  · have : reachBytes = 140737488351232 := rfl
    omega

set_option maxRecDepth 100000 in
theorem req_arg {v : Value} {d : DataW H} {p : List MemPlace} (hv : Value.okWide Tryz.prog w .any base 24 v) (h : DataW.Trod enc Tryz.prog w 0 (fun _ => true) held 24 v d p) (hf : Fit Tryz.prog 24 d) :
    ∃ (q : Reqr) (l : List Cse), v = reqV q ∧ ReqAt w q l ∧ HandlesOk l ∧ l.length ≤ 1099511627776000 ∧ (∀ a ∈ l, In64 a.dir ∧ In64 a.handle ∧ In64 a.value) ∧ l.length * 24 ≤ 140737488351232 ∧ q.n ≤ q.c ∧ In64 q.kind ∧ In64 q.arg ∧ In64 q.value := by
  obtain ⟨cs, rfl, _⟩ := okWide_struct Tryz.underlying24 hv
  obtain ⟨n, hn⟩ := h
  obtain ⟨q, l, e, h1, h2, h3, h4⟩ := open_req hn hf
  have e' : cs.toList = q.cells := e
  refine ⟨q, l, ?_, h1, fun a ha => (h2 a ha).2.1, by omega, h2, h3, h4⟩
  obtain ⟨cs⟩ := cs
  simp only at e'
  subst e'
  rfl

set_option maxRecDepth 100000 in
theorem res_arg {v : Value} {d : DataW H} {p : List MemPlace} (hv : Value.okWide Tryz.prog w .any base 36 v) (h : DataW.Trod enc Tryz.prog w 0 (fun _ => true) held 36 v d p) :
    ∃ r : Resr, v = rsV r ∧ In64 r.seq ∧ In64 r.case_ ∧ In64 r.code ∧ In64 r.value := by
  obtain ⟨cs, rfl, _⟩ := okWide_struct Tryz.underlying36 hv
  obtain ⟨n, hn⟩ := h
  obtain ⟨cs⟩ := cs
  have hn : DataW.trod enc Tryz.prog w 0 (fun _ => true) held n 36 cs = some (d, p) := hn
  have hl := fld_len Tryz.underlying36 hn
  rw [show Tryz.prog.cellsOf 36 = 4 by kernel_rfl] at hl
  have c1 : Tryz.prog.cellsOf 3 = 1 := by kernel_rfl
  have ce : Tryz.prog.cellsOf 34 = 1 := by kernel_rfl
  obtain ⟨_, _, h0⟩ := fld Tryz.underlying36 hn 0 0 1 3 rfl c1
  obtain ⟨_, _, h1⟩ := fld Tryz.underlying36 hn 1 1 1 3 rfl c1
  obtain ⟨_, _, h2⟩ := fld Tryz.underlying36 hn 2 2 1 34 rfl ce
  obtain ⟨_, _, h3⟩ := fld Tryz.underlying36 hn 3 3 1 3 rfl c1
  obtain ⟨z0, e0, w0⟩ := leaf_int Tryz.underlying3 h0
  obtain ⟨z1, e1, w1⟩ := leaf_int Tryz.underlying3 h1
  obtain ⟨z2, e2, w2⟩ := leaf_int Tryz.underlying34 h2
  obtain ⟨z3, e3, w3⟩ := leaf_int Tryz.underlying3 h3
  refine ⟨⟨z0, z1, z2, z3⟩, ?_, in64_of w0, in64_of w1, in64_of w2, in64_of w3⟩
  match cs, hl with
  | [a0, a1, a2, a3], _ =>
    simp at e0 e1 e2 e3
    subst e0 e1 e2 e3
    rfl
set_option maxRecDepth 100000 in
theorem cases_arg {v : Value} {d : DataW H} {p : List MemPlace} (hv : Value.okWide Tryz.prog w .any base 22 v) (h : DataW.Trod enc Tryz.prog w 0 (fun _ => true) held 22 v d p) (hf : Fit Tryz.prog 22 d) :
    ∃ (A : Option Addr) (l : List Cse) (c : Nat), v = .slice A l.length c ∧ Rd w A (rows l) ∧ l.length ≤ c ∧ l.length * 24 ≤ 140737488351232 ∧ (∀ a ∈ l, In64 a.dir ∧ In64 a.handle ∧ In64 a.value) := by
  obtain ⟨A0, n0, c0, rfl⟩ := okWide_slice Tryz.underlying22 hv
  obtain ⟨n, hn⟩ := h
  obtain ⟨A, l, cap, e, hR, _, hcap, _, hok, hsz⟩ := rd_recsW (α := Cse) (fun a => In64 a.dir ∧ In64 a.handle ∧ In64 a.value) Tryz.underlying22 (by kernel_rfl) (by decide) (fun n cs y h _ => open_case h) hn hf
  rw [show Tryz.prog.bytesOf 110 = 24 by kernel_rfl] at hsz
  exact ⟨A, l, cap, e, hR, hcap, by have : reachBytes = 140737488351232 := rfl; omega, hok⟩

set_option maxRecDepth 100000 in
theorem bool_arg {t : TypeId} {v : Value} {d : DataW H} {p : List MemPlace} (ht : Tryz.prog.underlying t = some .bool) (hv : Value.okWide Tryz.prog w .any base t v) (h : DataW.Trod enc Tryz.prog w 0 (fun _ => true) held t v d p) : ∃ b : Bool, v = .bool b := by
  obtain ⟨b, e, _⟩ := open_bool ht hv h
  exact ⟨b, e⟩
end

end Go.Proofs.YtalkllfgedacoaaGreatDoor
