/- Records of a hall as rows of cells: channels, calls that wait, results. -/
import Derived.Test.YtieglgahfeecbaaGreatDoorProg
import Derived.WalkKit
import Derived.WalkSpells
import Derived.WalkLawsBesides
import Derived.Lib.Hide
import Derived.Deep.QuietTactic
import Derived.BigQuiet
import Derived.Lib.QuietBelow
import Derived.RegionTactic
import Derived.ChangeAlike
import Derived.Laws.MakeOwn
import Derived.OwnWalk
import Derived.Laws.OwnMore
import Derived.Deep.RegionLaw
import Derived.Deep.RegionHeld3
import Derived.Deep.DrawnRows
import Derived.Deep.LoopGhost
import Derived.Deep.DeepCutAuto
import Derived.Laws.ResultCell
import Derived.Laws.Rows
namespace Go.Proofs.YtieglgahfeecbaaGreatDoor
open Go.RowKit

/-- The slice at A holds the cells xs in w. -/
def Rd (w : World) (A : Option Addr) (xs : List Value) : Prop :=
  xs = [] ∨ ∃ b o, A = some ⟨b, o, none⟩ ∧ b < w.heap.size ∧ ∀ k v, xs[k]? = some v → w.cell? ⟨b, o + k, none⟩ = some v

theorem Rd.below {w w' : World} {A : Option Addr} {xs : List Value} (h : Rd w A xs) (hb : Below w.heap.size w w') : Rd w' A xs := by
  rcases h with h | ⟨b, o, rfl, hlt, hc⟩
  · exact .inl h
  · refine .inr ⟨b, o, rfl, Nat.lt_of_lt_of_le hlt hb.size, fun k v hk => ?_⟩
    rw [hb.cell (p := ⟨b, o + k, none⟩) hlt]; exact hc k v hk

theorem Rd.alloc {w : World} {A : Option Addr} {xs : List Value} (h : Rd w A xs) (ob : Obj) : Rd (w.alloc ob) A xs :=
  h.below ((Below.refl _ _).alloc (Nat.le_refl _) _)

theorem Rd.at_ {w : World} {A : Option Addr} {xs : List Value} (h : Rd w A xs) (hne : 0 < xs.length) :
    ∃ b o, A = some ⟨b, o, none⟩ ∧ b < w.heap.size ∧ ∀ k v, xs[k]? = some v → w.cell? ⟨b, o + k, none⟩ = some v := by
  rcases h with rfl | h
  · simp at hne
  · exact h

def ints (l : List Int) : List Value := l.map (Value.int .i64)

theorem ints_at {l : List Int} {k : Nat} (h : k < l.length) : (ints l)[k]? = some (.int .i64 (l.getD k 0)) := by
  simp [ints, List.getD, List.getElem?_eq_getElem h]

theorem ints_length (l : List Int) : (ints l).length = l.length := by simp [ints]

/-- What was there is there, cell by cell. -/
theorem bcell {W w1 : World} (hb : Below W.heap.size W w1) : (∀ b o, b < W.heap.size → w1.cell? ⟨b, o, none⟩ = W.cell? ⟨b, o, none⟩) ∧ (∀ b o, b < W.heap.size → w1.frozen? ⟨b, o, none⟩ = W.frozen? ⟨b, o, none⟩) :=
  ⟨fun b o h => hb.cell (p := ⟨b, o, none⟩) h, fun b o h => hb.frozen (p := ⟨b, o, none⟩) h⟩

theorem ret_int {k : IntKind} {a b : Int} (h : a = b) : Ending.returned (.int k a) = .returned (.int k b) := by rw [h]
theorem ret_bool {a b : Bool} (h : a = b) : Ending.returned (.bool a) = .returned (.bool b) := by rw [h]

theorem Below.drewN' {B : Nat} {a w : World} (h : Below B a w) (n : Nat) : Below B a (w.drewN n) := ⟨h.os, h.tape, h.output, h.size, h.block⟩

end Go.Proofs.YtieglgahfeecbaaGreatDoor

namespace Go.Proofs.YtieglgahfeecbaaGreatDoor
open Go.RowKit Go.Sort

/-- Block g holds the cells cs, of element type t, none of them frozen. -/
def Blk (w : World) (g : Nat) (t : TypeId) (cs : List Value) : Prop := w.heap[g]? = some (.cells cs.toArray t (0, 0))

section
variable {w w' : World} {g : Nat} {t : TypeId} {cs : List Value}
theorem Blk.lt (h : Blk w g t cs) : g < w.heap.size := by
  rcases Nat.lt_or_ge g w.heap.size with hlt | hge
  · exact hlt
  · unfold Blk at h; rw [Array.getElem?_eq_none hge] at h; cases h
theorem Blk.cell (h : Blk w g t cs) {i : Nat} {v : Value} (hi : cs[i]? = some v) : w.cell? ⟨g, i, none⟩ = some v := by
  unfold Blk at h
  simp [World.cell?, h, hi]
theorem Blk.frozen (h : Blk w g t cs) (i : Nat) : w.frozen? ⟨g, i, none⟩ = false := by
  unfold Blk at h
  simp [World.frozen?, h]
theorem Blk.new (w : World) (t : TypeId) (cs : List Value) : Blk (w.alloc (.cells cs.toArray t)) w.heap.size t cs := heap_alloc_new w _
theorem Blk.alloc (h : Blk w g t cs) (o : Obj) : Blk (w.alloc o) g t cs := (Below.heap_alloc w o g h.lt).trans h
theorem Blk.set_ (h : Blk w g t cs) (i : Nat) (u : Value) : Blk (w.setCell ⟨g, i, none⟩ u) g t (cs.set i u) := by
  unfold Blk at h ⊢
  simp [World.setCell, Array.getElem?_modify, h]
theorem Blk.below {B : Nat} (h : Blk w g t cs) (hb : Below B w w') (hg : g < B) : Blk w' g t cs := (hb.block g hg).trans h
theorem Blk.drew (h : Blk w g t cs) : Blk w.drew g t cs := h
theorem Blk.rd (h : Blk w g t cs) : Rd w (some ⟨g, 0, none⟩) cs := .inr ⟨g, 0, rfl, h.lt, fun k v hk => by rw [Nat.zero_add]; exact h.cell hk⟩
end

/-- From a to w: new blocks, and writes to block g alone. -/
structure Only (g : Nat) (a w : World) : Prop where
  os : w.os = a.os
  tape : w.tape = a.tape
  output : w.output = a.output
  size : a.heap.size ≤ w.heap.size
  block : ∀ k, k < a.heap.size → k ≠ g → w.heap[k]? = a.heap[k]?

section
variable {g : Nat} {a b w w' : World}
theorem Only.refl (g : Nat) (w : World) : Only g w w := ⟨rfl, rfl, rfl, Nat.le_refl _, fun _ _ _ => rfl⟩
theorem Only.trans (h : Only g a b) (k : Only g b w) : Only g a w :=
  ⟨k.os.trans h.os, k.tape.trans h.tape, k.output.trans h.output, Nat.le_trans h.size k.size, fun i hi hn => (k.block i (Nat.lt_of_lt_of_le hi h.size) hn).trans (h.block i hi hn)⟩
theorem Only.of_below (h : Below a.heap.size a w) : Only g a w := ⟨h.os, h.tape, h.output, h.size, fun i hi _ => h.block i hi⟩
theorem Only.alloc (h : Only g a w) (o : Obj) : Only g a (w.alloc o) := h.trans (.of_below ((Below.refl _ _).alloc (Nat.le_refl _) _))
theorem Only.drew (h : Only g a w) : Only g a w.drew := ⟨h.os, h.tape, h.output, h.size, h.block⟩
theorem Only.drewN (h : Only g a w) (n : Nat) : Only g a (w.drewN n) := ⟨h.os, h.tape, h.output, h.size, h.block⟩
theorem Only.set_ (h : Only g a w) (i : Nat) (u : Value) : Only g a (w.setCell ⟨g, i, none⟩ u) :=
  h.trans ⟨rfl, rfl, rfl, by simp [World.setCell], fun k _ hn => Below.heap_setCell _ _ _ _ hn⟩
theorem Only.cell (h : Only g a w) {p : Addr} (hp : p.block < a.heap.size) (hn : p.block ≠ g) : w.cell? p = a.cell? p := World.cell?_of_block (w := a) (h.block p.block hp hn)
theorem Only.rd {A : Option Addr} {xs : List Value} (h : Only g a w) (hr : Rd a A xs) (hg : a.heap.size ≤ g) : Rd w A xs := by
  rcases hr with hr | ⟨b, o, rfl, hlt, hc⟩
  · exact .inl hr
  · refine .inr ⟨b, o, rfl, Nat.lt_of_lt_of_le hlt h.size, fun k v hk => ?_⟩
    rw [h.cell (p := ⟨b, o + k, none⟩) hlt (by show b ≠ g; omega)]; exact hc k v hk
theorem Only.below {B : Nat} (h : Only g a w) (hg : B ≤ g) (hB : B ≤ a.heap.size) : Below B a w := ⟨h.os, h.tape, h.output, h.size, fun k hk => h.block k (by omega) (by omega)⟩
end

theorem int_info : (Tryz.prog.info? 3).map (fun i => (i.zero, i.size, i.bytes)) = some (some (.int .i64 0), 1, 8) := by kernel_rfl

/-- make([]int, n), n small. -/
theorem make_ints (n : Nat) (hn : n ≤ 1048576) (w : World) :
    (Instr.makeSlice 22 (.int .i64 (n : Int)) (.int .i64 (n : Int))).run Tryz.prog w = .ok (.slice (some ⟨w.heap.size, 0, none⟩) n n) (w.alloc (.cells (ints (List.replicate n 0)).toArray 3)) := by
  obtain ⟨i, hi, hz, hs, hb⟩ := info_parts int_info
  have hr := run_make (P := Tryz.prog) w 22 3 i (.int .i64 0) Tryz.underlying22 hi hz .i64 .i64 n n (by omega) (by omega) (by rw [hb]; omega) (by omega)
  simp only [Int.toNat_natCast] at hr
  have e1 : madeCells (Value.int .i64 0).cells (n * i.size) = (ints (List.replicate n 0)).toArray := by
    rw [hs]
    apply Array.ext
    · simp [madeCells, ints]
    · intro j h1 h2
      simp [madeCells, ints, Value.cells, Nat.mod_one]
  rw [hr, e1]

theorem ints_set (l : List Int) (i : Nat) (x : Int) : (ints l).set i (.int .i64 x) = ints (l.set i x) := by simp [ints, List.map_set]

end Go.Proofs.YtieglgahfeecbaaGreatDoor

namespace Go.Proofs.YtieglgahfeecbaaGreatDoor
open Go.RowKit Go.Sort

/-- The slice value v of n elements, E of s cells each, is the call's own from base on and holds the cells xs. -/
theorem own_rd {w : World} {base : Nat} {e : TypeId} {s n : Nat} {A : Option Addr} {c : Nat} {xs : List Value} (h : w.ownsRow base e s (.slice A n c) n xs) : Rd w A xs := by
  rcases h with ⟨h1, ⟨hv, hn⟩ | ⟨g, cap, cur, hv, hg, hh, hnc, hm, hsz, hx⟩⟩
  · left
    exact List.eq_nil_of_length_eq_zero (by rw [h1, hn]; simp)
  · injection hv with hA hn' hc
    subst hA
    have hlt : g < w.heap.size := by
      rcases Nat.lt_or_ge g w.heap.size with hlt | hge
      · exact hlt
      · rw [Array.getElem?_eq_none hge] at hh; cases hh
    refine .inr ⟨g, 0, rfl, hlt, fun k v hk => ?_⟩
    rw [Nat.zero_add]
    have hk' : cur.toList[k]? = some v := by
      rw [← hx] at hk
      rw [List.getElem?_take] at hk
      split at hk
      · exact hk
      · cases hk
    simp only [World.cell?, hh]
    simpa using hk'

theorem own_block {w : World} {base : Nat} {e : TypeId} {s n : Nat} {v : Value} {xs : List Value} (h : w.ownsRow base e s v n xs) : ∀ k, v.ownBlock = some k → base ≤ k := by
  intro k hk
  rcases h.2 with ⟨rfl, _⟩ | ⟨g, cap, cur, rfl, hg, _⟩
  · simp [Value.ownBlock] at hk
  · simp only [Value.ownBlock, Option.some.injEq] at hk; omega

theorem own_grown {w w' : World} {base : Nat} {e : TypeId} {s n : Nat} {v : Value} {xs : List Value} (h : w.ownsRow base e s v n xs) (hb : base ≤ w.heap.size) (hg : w.grownBy w' v.ownBlock) : Below base w w' :=
  (Below.refl _ _).grown hg hb (own_block h)

theorem own_below {w w' : World} {base : Nat} {e : TypeId} {s n : Nat} {v : Value} {xs : List Value} (h : w.ownsRow base e s v n xs) (hb : Below w.heap.size w w') : w'.ownsRow base e s v n xs := by
  refine ⟨h.1, ?_⟩
  rcases h.2 with h2 | ⟨g, cap, cur, hv, hg, hh, r⟩
  · exact .inl h2
  · have hlt : g < w.heap.size := by
      rcases Nat.lt_or_ge g w.heap.size with hlt | hge
      · exact hlt
      · rw [Array.getElem?_eq_none hge] at hh; cases hh
    exact .inr ⟨g, cap, cur, hv, hg, (hb.block g hlt).trans hh, r⟩

theorem own_nil (w : World) (base : Nat) (e : TypeId) (s : Nat) : w.ownsRow base e s (.slice none 0 0) 0 [] := ⟨by simp, .inl ⟨rfl, rfl⟩⟩

theorem new1 (w : World) (v : Value) (t : TypeId) : (w.alloc (.cells #[v] t)).cell? ⟨w.heap.size, 0, none⟩ = some v := by simp

theorem append_int {ops : Array Oper} {rest : List Oper} {o : Oper} {a : Act} {Q : Exit → Act → World → Prop} {w : World} (s x : Operand) (hgd : o.guard = none)
    (ho : o.op = .call { callee := .builtin .append, args := #[s, x], argTypes := #[22, 22] })
    (base : Nat) (A : Option Addr) (n c : Nat) (l : List Int) (z : Int) (g c' : Nat) (hs : a.eval s = .slice A n c) (hown : w.ownsRow base 3 1 (.slice A n c) n (ints l))
    (hx : a.eval x = .slice (some ⟨g, 0, none⟩) 1 c') (hcell : w.cell? ⟨g, 0, none⟩ = some (.int .i64 z)) (hlen : n ≤ 2097152) (hbase : base ≤ w.heap.size)
    (h : ∀ A' c'' w', w'.ownsRow base 3 1 (.slice A' (n + 1) c'') (n + 1) (ints (l ++ [z])) → Below base w w' → w.grownBy w' (Value.ownBlock (.slice A n c)) → wpList Tryz.prog ops Q rest (a.put o.dst (.slice A' (n + 1) c'')) w') :
    wpList Tryz.prog ops Q (o :: rest) a w := by
  obtain ⟨i0, hi, hz0, hz1, hz2⟩ := info_parts int_info
  refine wpList_append_own w hgd s x 22 ho base 3 i0 (.int .i64 0) 1 8 Tryz.underlying22 hi hz0 hz1 hz2 rfl (by decide) _ n (ints l) hs hown ⟨g, 0, none⟩ 1 c' [.int .i64 z] hx rfl ?_ ?_ ?_ ?_ hbase ?_
  · intro j u hj
    match j, hj with
    | 0, hj => simp at hj; subst hj; simpa [Addr.add] using hcell
  · intro u hu; simp at hu; subst hu; rfl
  · unfold maxLen; omega
  · omega
  · intro v' w' hown' hg _
    obtain ⟨g', cap', hv⟩ : ∃ g' cap', v' = .slice (some ⟨g', 0, none⟩) (n + 1) cap' := by
      rcases hown'.2 with ⟨_, h0⟩ | ⟨g', cap', _, hv, _⟩
      · omega
      · exact ⟨g', cap', hv⟩
    subst hv
    refine h _ _ w' ?_ (own_grown hown hbase hg) hg
    rw [show ints (l ++ [z]) = ints l ++ [.int .i64 z] by simp [ints]]
    exact hown'

end Go.Proofs.YtieglgahfeecbaaGreatDoor

namespace Go.Proofs.YtieglgahfeecbaaGreatDoor
open Go.RowKit Go.Sort

/-- Handed back: a row in new memory that the caller owns. -/
def RetOwn (E : TypeId) (s n : Nat) (xs : List Value) (w : World) (e : Ending) (w' : World) : Prop :=
  ∃ A c, e = .returned (.slice A n c) ∧ w'.ownsRow w.heap.size E s (.slice A n c) n xs ∧ Below w.heap.size w w'

theorem rd_add {w : World} {ad : Addr} {xs : List Value} (h : Rd w (some ad) xs) : ∀ j u, xs[j]? = some u → w.cell? (ad.add j) = some u := by
  intro j u hj
  rcases h with rfl | ⟨b, o, he, _, hc⟩
  · simp at hj
  · injection he with he
    subst he
    have e1 : (Addr.add ⟨b, o, none⟩ j) = ⟨b, o + j, none⟩ := by
      unfold Addr.add; split
      · simp_all
      · rfl
    rw [e1]; exact hc j u hj

theorem own_empty (w : World) (E : TypeId) (s : Nat) : (w.alloc (.cells #[] E)).ownsRow w.heap.size E s (.slice (some ⟨w.heap.size, 0, none⟩) 0 0) 0 [] :=
  ⟨by simp, .inr ⟨w.heap.size, 0, #[], rfl, Nat.le_refl _, heap_alloc_new w _, Nat.le_refl _, by unfold maxLen; omega, by simp, by simp⟩⟩

theorem own_slice {w : World} {base : Nat} {e : TypeId} {s n : Nat} {v : Value} {xs : List Value} (h : w.ownsRow base e s v n xs) : ∃ A c, v = .slice A n c := by
  rcases h.2 with ⟨rfl, rfl⟩ | ⟨g, cap, cur, rfl, _⟩
  · exact ⟨_, _, rfl⟩
  · exact ⟨_, _, rfl⟩

theorem own_le {w : World} {base : Nat} {e : TypeId} {s n : Nat} {A : Option Addr} {c : Nat} {xs : List Value} (h : w.ownsRow base e s (.slice A n c) n xs) : n ≤ c := by
  rcases h.2 with ⟨hv, rfl⟩ | ⟨g, cap, cur, hv, _, _, hnc, _⟩
  · exact Nat.zero_le _
  · injection hv with _ _ hc
    omega

theorem own_some {w : World} {base : Nat} {e : TypeId} {s n : Nat} {A : Option Addr} {c : Nat} {xs : List Value} (h : w.ownsRow base e s (.slice A n c) n xs) (hn : 0 < n) : ∃ g, A = some ⟨g, 0, none⟩ ∧ base ≤ g ∧ g < w.heap.size := by
  rcases h.2 with ⟨hv, rfl⟩ | ⟨g, cap, cur, hv, hb, hh, hnc, _⟩
  · omega
  · injection hv with hA _ _
    refine ⟨g, hA, hb, ?_⟩
    rcases Nat.lt_or_ge g w.heap.size with hlt | hge
    · exact hlt
    · rw [Array.getElem?_eq_none hge] at hh; cases hh

theorem own_none {w : World} {base : Nat} {e : TypeId} {s n : Nat} {A : Option Addr} {c : Nat} {xs : List Value} (h : w.ownsRow base e s (.slice A n c) n xs) (hA : A = none) : n = 0 ∧ c = 0 ∧ xs = [] := by
  have hl := h.1
  rcases h.2 with ⟨hv, rfl⟩ | ⟨g, cap, cur, hv, _⟩
  · injection hv with _ _ hc
    exact ⟨rfl, hc, List.eq_nil_of_length_eq_zero (by rw [hl]; simp)⟩
  · injection hv with hA' _ _
    rw [hA] at hA'; cases hA'

theorem own_lower {w : World} {base b : Nat} {e : TypeId} {s n : Nat} {v : Value} {xs : List Value} (h : w.ownsRow base e s v n xs) (hb : b ≤ base) : w.ownsRow b e s v n xs := by
  refine ⟨h.1, ?_⟩
  rcases h.2 with h2 | ⟨g, cap, cur, hv, hg, r⟩
  · exact .inl h2
  · exact .inr ⟨g, cap, cur, hv, by omega, r⟩

theorem grown_refl (w : World) (r : Option Nat) : w.grownBy w r := ⟨rfl, rfl, rfl, Nat.le_refl _, fun _ _ _ => rfl⟩

theorem wp_app {o : Oper} {a : Act} {w : World} {K : Act → World → Prop} {Q : Exit → Act → World → Prop} (s x : Operand) (t e : TypeId)
    (ho : o.op = .call { callee := .builtin .append, args := #[s, x], argTypes := #[t, t] })
    (base : Nat) (z : Value) (size bytes : Nat) (ht : Tryz.prog.underlying t = some (.slice e)) (hinfo : (Tryz.prog.info? e).map (fun i => (i.zero, i.size, i.bytes)) = some (some z, size, bytes)) (hzs : z.cells.size = size) (hsz : 0 < size)
    (A : Option Addr) (n c : Nat) (xs : List Value) (hs : a.eval s = .slice A n c) (hown : w.ownsRow base e size (.slice A n c) n xs)
    (B : Option Addr) (m d : Nat) (news : List Value) (hx : a.eval x = .slice B m d) (hd : B = none → m = 0 ∧ d = 0) (hl : news.length = m * size) (hR : Rd w B news) (h1 : ∀ u ∈ news, u.oneCell' = true)
    (N : Nat) (hN : n + m = N) (ys : List Value) (hys : xs ++ news = ys) (h63 : N ≤ maxLen) (hbytes : N * bytes ≤ 140737488355328) (hbase : base ≤ w.heap.size)
    (h : ∀ A' c' w', w'.ownsRow base e size (.slice A' N c') N ys → w.grownBy w' (Value.ownBlock (.slice A n c)) → Below base w w' → K (a.put o.dst (.slice A' N c')) w') : o.wp Tryz.prog a w K Q := by
  subst hN hys
  obtain ⟨i0, hi, hz0, hz1, hz2⟩ := info_parts hinfo
  cases B with
  | some ad =>
    refine wp_append_own w s x t ho base e i0 z size bytes ht hi hz0 hz1 hz2 hzs hsz _ n xs hs hown ad m d news hx hl (rd_add hR) h1 h63 hbytes hbase fun v' w' hown' hg _ => ?_
    obtain ⟨A', c', rfl⟩ := own_slice hown'
    exact h A' c' w' hown' hg (own_grown hown hbase hg)
  | none =>
    obtain ⟨rfl, rfl⟩ := hd rfl
    have hnil : news = [] := List.eq_nil_of_length_eq_zero (by rw [hl]; simp)
    subst hnil
    have hrun := run_append_owned_none (P := Tryz.prog) (w := w) base t o.type e i0 size ht hi _ n xs hown
    unfold Oper.wp
    simp only [execOp, ho, resolve, invoke, builtin, Sem.run_bind, Sem.run_pure, Result.andThen_ok, List.map_toArray, List.map_cons, List.map_nil, hs, hx, hrun]
    exact h A c w (by simpa using hown) (grown_refl _ _) (Below.refl _ _)

theorem step_app {ops : Array Oper} {o : Oper} {a : Act} {w : World} {K : Act → World → Prop} {Q : Exit → Act → World → Prop} {F : Prop} (hgd : o.guard = none) (s x : Operand) (t e : TypeId)
    (ho : o.op = .call { callee := .builtin .append, args := #[s, x], argTypes := #[t, t] })
    (base : Nat) (z : Value) (size bytes : Nat) (ht : Tryz.prog.underlying t = some (.slice e)) (hinfo : (Tryz.prog.info? e).map (fun i => (i.zero, i.size, i.bytes)) = some (some z, size, bytes)) (hzs : z.cells.size = size) (hsz : 0 < size)
    (A : Option Addr) (n c : Nat) (xs : List Value) (hs : a.eval s = .slice A n c) (hown : w.ownsRow base e size (.slice A n c) n xs)
    (B : Option Addr) (m d : Nat) (news : List Value) (hx : a.eval x = .slice B m d) (hd : B = none → m = 0 ∧ d = 0) (hl : news.length = m * size) (hR : Rd w B news) (h1 : ∀ u ∈ news, u.oneCell' = true)
    (N : Nat) (hN : n + m = N) (ys : List Value) (hys : xs ++ news = ys) (h63 : N ≤ maxLen) (hbytes : N * bytes ≤ 140737488355328) (hbase : base ≤ w.heap.size)
    (h : ∀ A' c' w', w'.ownsRow base e size (.slice A' N c') N ys → w.grownBy w' (Value.ownBlock (.slice A n c)) → Below base w w' → K (a.put o.dst (.slice A' N c')) w') :
    if Region.wanted o (yielded ops a.tmps) = true then Oper.wp Tryz.prog o a w K Q else F := by
  have hw : Region.wanted o (yielded ops a.tmps) = true := by simp [Region.wanted, hgd]
  rw [if_pos hw]
  exact wp_app s x t e ho base z size bytes ht hinfo hzs hsz A n c xs hs hown B m d news hx hd hl hR h1 N hN ys hys h63 hbytes hbase h

theorem wpList_app {ops : Array Oper} {rest : List Oper} {o : Oper} {a : Act} {w : World} {Q : Exit → Act → World → Prop} (hgd : o.guard = none) (s x : Operand) (t e : TypeId)
    (ho : o.op = .call { callee := .builtin .append, args := #[s, x], argTypes := #[t, t] })
    (base : Nat) (z : Value) (size bytes : Nat) (ht : Tryz.prog.underlying t = some (.slice e)) (hinfo : (Tryz.prog.info? e).map (fun i => (i.zero, i.size, i.bytes)) = some (some z, size, bytes)) (hzs : z.cells.size = size) (hsz : 0 < size)
    (A : Option Addr) (n c : Nat) (xs : List Value) (hs : a.eval s = .slice A n c) (hown : w.ownsRow base e size (.slice A n c) n xs)
    (B : Option Addr) (m d : Nat) (news : List Value) (hx : a.eval x = .slice B m d) (hd : B = none → m = 0 ∧ d = 0) (hl : news.length = m * size) (hR : Rd w B news) (h1 : ∀ u ∈ news, u.oneCell' = true)
    (N : Nat) (hN : n + m = N) (ys : List Value) (hys : xs ++ news = ys) (h63 : N ≤ maxLen) (hbytes : N * bytes ≤ 140737488355328) (hbase : base ≤ w.heap.size)
    (h : ∀ A' c' w', w'.ownsRow base e size (.slice A' N c') N ys → w.grownBy w' (Value.ownBlock (.slice A n c)) → Below base w w' → wpList Tryz.prog ops Q rest (a.put o.dst (.slice A' N c')) w') : wpList Tryz.prog ops Q (o :: rest) a w :=
  wpList_plain hgd fun _ hK => wp_app s x t e ho base z size bytes ht hinfo hzs hsz A n c xs hs hown B m d news hx hd hl hR h1 N hN ys hys h63 hbytes hbase fun A' c' w' h2 h3 h4 => hK _ _ (h A' c' w' h2 h3 h4)

theorem rd_take {w : World} {A : Option Addr} {xs : List Value} (h : Rd w A xs) (m : Nat) : Rd w A (xs.take m) := by
  rcases h with rfl | ⟨b, o, rfl, hlt, hc⟩
  · exact .inl (by simp)
  · refine .inr ⟨b, o, rfl, hlt, fun k v hk => hc k v ?_⟩
    rw [List.getElem?_take] at hk
    split at hk
    · exact hk
    · cases hk

/-- s[k:], whatever the capacity is. -/
theorem rd_cut {w : World} {A : Option Addr} {xs : List Value} {s n k cap : Nat} (h : Rd w A xs) (hl : xs.length = n * s) (hk : k ≤ n) (hc : n ≤ cap) :
    Rd w (if cap = k then A else A.map (·.add (k * s))) (xs.drop (k * s)) := by
  by_cases he : cap = k
  · left
    obtain rfl : n = k := by omega
    exact List.drop_of_length_le (by omega)
  · rw [if_neg he]
    rcases h with rfl | ⟨b, o, rfl, hlt, hcell⟩
    · exact .inl (by simp)
    · right
      refine ⟨b, o + k * s, ?_, hlt, fun j v hj => ?_⟩
      · simp only [Option.map_some]
        unfold Addr.add; split
        · simp_all
        · rfl
      · rw [List.getElem?_drop] at hj
        rw [Nat.add_assoc]
        exact hcell _ v hj

theorem rd_drewN {w : World} {A : Option Addr} {xs : List Value} (h : Rd w A xs) (n : Nat) : Rd (w.drewN n) A xs := h
theorem rd_drew {w : World} {A : Option Addr} {xs : List Value} (h : Rd w A xs) : Rd w.drew A xs := h

theorem cut_none {A : Option Addr} {k s cap : Nat} (h : (if cap = k then A else A.map (·.add (k * s))) = none) : A = none := by
  split at h
  · exact h
  · simpa using h

theorem own_blank {w : World} {g base : Nat} {e : TypeId} {s : Nat} (h : Blk w g e []) (hb : base ≤ g) : w.ownsRow base e s (.slice (some ⟨g, 0, none⟩) 0 0) 0 [] :=
  ⟨by simp, .inr ⟨g, 0, _, rfl, hb, h, Nat.le_refl _, Nat.zero_le _, by simp, by simp⟩⟩

theorem own_blk1 {w : World} {g base : Nat} {e : TypeId} {s n : Nat} {cs : List Value} (h : Blk w g e cs) (hb : base ≤ g) (hl : cs.length = n * s) (hn : n ≤ maxLen) : w.ownsRow base e s (.slice (some ⟨g, 0, none⟩) n n) n cs :=
  ⟨hl, .inr ⟨g, n, _, rfl, hb, h, Nat.le_refl _, hn, by simpa using hl, by rw [← hl]; simp⟩⟩

theorem blk_new {w : World} {t : TypeId} {cs : List Value} {g : Nat} (h : g = w.heap.size) : Blk (w.alloc (.cells cs.toArray t)) g t cs := by subst h; exact Blk.new w t cs
theorem blk_grown {w w' : World} {g : Nat} {t : TypeId} {cs : List Value} {row : Option Nat} (h : Blk w g t cs) (hb : w.grownBy w' row) (hg : some g ≠ row) : Blk w' g t cs := (hb.block g h.lt hg).trans h

theorem below1 (W : World) (o : Obj) : Below W.heap.size W (W.alloc o).drew := by
  have h := (Below.refl W.heap.size W).alloc (Nat.le_refl _) o
  exact ⟨h.os, h.tape, h.output, h.size, h.block⟩
theorem below2 (W : World) (o o' : Obj) : Below W.heap.size W ((W.alloc o).alloc o').drew := by
  have h := ((Below.refl W.heap.size W).alloc (Nat.le_refl _) o).alloc (by simp) o'
  exact ⟨h.os, h.tape, h.output, h.size, h.block⟩

theorem ints_one (l : List Int) : ∀ u ∈ ints l, u.oneCell' = true := by
  intro u hu
  simp only [ints, List.mem_map] at hu
  obtain ⟨x, _, rfl⟩ := hu
  rfl

/-- A record that lies in s cells. -/
class Cellful (α : Type) where
  cells : α → List Value
  s : Nat
  dflt : α
  len : ∀ a, (cells a).length = s
  one : ∀ a, ∀ u ∈ cells a, u.oneCell' = true

section
variable {α : Type} [C : Cellful α]

/-- The cells of a row. -/
def rows (l : List α) : List Value := l.flatMap C.cells

theorem rows_length (l : List α) : (rows l).length = l.length * C.s := by
  induction l with
  | nil => simp [rows]
  | cons a l ih =>
    simp only [rows, List.flatMap_cons, List.length_append, List.length_cons] at *
    rw [ih, C.len, Nat.succ_mul]; omega

theorem rows_cons (a : α) (l : List α) : rows (a :: l) = C.cells a ++ rows l := by simp [rows]
theorem rows_append (l r : List α) : rows (l ++ r) = rows l ++ rows r := by simp [rows]
theorem rows_one (l : List α) : ∀ u ∈ rows l, u.oneCell' = true := by
  intro u hu
  simp only [rows, List.mem_flatMap] at hu
  obtain ⟨a, _, h⟩ := hu
  exact C.one a u h
theorem rows_single (a : α) : rows [a] = C.cells a := by simp [rows]

theorem rows_at {l : List α} : ∀ {k : Nat}, k < l.length → ∀ j, j < C.s → (rows l)[k * C.s + j]? = (C.cells (l.getD k C.dflt))[j]? := by
  induction l with
  | nil => intro k h; simp at h
  | cons a l ih =>
    intro k h j hj
    rw [rows_cons]
    match k with
    | 0 => rw [List.getElem?_append_left (by rw [C.len]; omega)]; simp
    | k + 1 =>
      rw [List.getElem?_append_right (by rw [C.len, Nat.succ_mul]; omega)]
      have := ih (k := k) (by simpa using h) j hj
      rw [C.len, show (k + 1) * C.s + j - C.s = k * C.s + j by rw [Nat.succ_mul]; omega, this]
      simp

theorem rows_take (l : List α) (k : Nat) : (rows l).take (k * C.s) = rows (l.take k) := by
  rcases Nat.lt_or_ge k l.length with h | h
  · have e : rows l = rows (l.take k) ++ rows (l.drop k) := by rw [← rows_append, List.take_append_drop]
    rw [e, List.take_left' (by rw [rows_length, List.length_take, Nat.min_eq_left (by omega)])]
  · rw [List.take_of_length_le (by rw [rows_length]; exact Nat.mul_le_mul_right _ h), List.take_of_length_le h]
theorem rows_drop (l : List α) (k : Nat) : (rows l).drop (k * C.s) = rows (l.drop k) := by
  rcases Nat.lt_or_ge k l.length with h | h
  · have e : rows l = rows (l.take k) ++ rows (l.drop k) := by rw [← rows_append, List.take_append_drop]
    rw [e, List.drop_left' (by rw [rows_length, List.length_take, Nat.min_eq_left (by omega)])]
  · rw [List.drop_of_length_le (by rw [rows_length]; exact Nat.mul_le_mul_right _ h), List.drop_of_length_le h]; rfl

/-- The cells of the record number k, the first one and the others. -/
theorem rec_cell {w : World} {b o : Nat} {l : List α} (hc : ∀ k v, (rows l)[k]? = some v → w.cell? ⟨b, o + k, none⟩ = some v) {k : Nat} (hk : k < l.length) {x : α} (hx : l.getD k C.dflt = x) :
    ∀ j v, (C.cells x)[j]? = some v → w.cell? ⟨b, o + k * C.s + j, none⟩ = some v := by
  intro j v hj
  have hjs : j < C.s := by
    have := (List.getElem?_eq_some_iff.1 hj).1
    rwa [C.len] at this
  rw [Nat.add_assoc]
  exact hc _ v (by rw [rows_at hk j hjs, hx]; exact hj)

theorem rows_set {l : List α} : ∀ {k : Nat}, k < l.length → ∀ (j : Nat) (v : Value) (y : α), j < C.s → C.cells y = (C.cells (l.getD k C.dflt)).set j v → (rows l).set (k * C.s + j) v = rows (l.set k y) := by
  induction l with
  | nil => intro k h; simp at h
  | cons a l ih =>
    intro k h j v y hj hy
    rw [rows_cons]
    match k with
    | 0 =>
      simp only [Nat.zero_mul, Nat.zero_add, List.set_cons_zero, rows_cons]
      rw [List.set_append_left _ _ (by rw [C.len]; exact hj)]
      simp at hy
      rw [hy]
    | k + 1 =>
      rw [List.set_append_right _ _ (by rw [C.len, Nat.succ_mul]; omega), C.len, show (k + 1) * C.s + j - C.s = k * C.s + j by rw [Nat.succ_mul]; omega, ih (k := k) (by simpa using h) j v y hj (by simpa using hy)]
      simp [rows_cons]

/-- A slice of records that reads as a list. -/
abbrev RdR (w : World) (A : Option Addr) (l : List α) : Prop := Rd w A (rows l)

/-- A slice of records in a row of its own. -/
def RetRows (l : List α) (w : World) (e : Ending) (w' : World) : Prop :=
  ∃ A c, e = .returned (.slice A l.length c) ∧ Rd w' A (rows l) ∧ l.length ≤ c ∧ (A = none → c = 0) ∧ Below w.heap.size w w'
end

/-- Numbers in a row of their own. -/
def RetIntsC (l : List Int) (w : World) (e : Ending) (w' : World) : Prop :=
  ∃ A c, e = .returned (.slice A l.length c) ∧ Rd w' A (ints l) ∧ l.length ≤ c ∧ (A = none → c = 0) ∧ Below w.heap.size w w'

/-- Numbers in a row that the caller may write. -/
def RetIntsO (l : List Int) (w : World) (e : Ending) (w' : World) : Prop :=
  ∃ A c, e = .returned (.slice A l.length c) ∧ w'.ownsRow w.heap.size 3 1 (.slice A l.length c) l.length (ints l) ∧ Below w.heap.size w w'

/-- The closure (f, caps), asked at a record's value in a world behind w, answers p x and leaves alone what was there. -/
def AsksV {α : Type} (val : α → Value) (w : World) (f : FuncId) (caps : Array Value) (p : α → Bool) (l : List α) : Prop :=
  ∀ x, x ∈ l → ∀ w', Below w.heap.size w w' → Calls Tryz.prog f (#[val x] ++ caps) w' fun e w'' => e = .returned (.bool (p x)) ∧ Below w'.heap.size w' w''

theorem AsksV.later {α : Type} {val : α → Value} {w w1 : World} {f : FuncId} {caps : Array Value} {p : α → Bool} {l : List α} (h : AsksV val w f caps p l) (hb : Below w.heap.size w w1) : AsksV val w1 f caps p l :=
  fun x hx w' hb' => h x hx w' (hb.trans (hb'.mono hb.size))

/-- Where the first one is of which p holds. -/
def firstV {α : Type} (p : α → Bool) : List α → Nat → Int
  | [], _ => -1
  | x :: r, k => if p x then (k : Int) else firstV p r (k + 1)

theorem firstV_none {α : Type} {p : α → Bool} : ∀ (l : List α) (k : Nat), (∀ x ∈ l, p x = false) → firstV p l k = -1
  | [], _, _ => rfl
  | x :: r, k, h => by simp [firstV, h x (by simp), firstV_none r (k + 1) (fun y hy => h y (by simp [hy]))]

theorem firstV_lo {α : Type} {p : α → Bool} : ∀ (l : List α) (k : Nat), -1 ≤ firstV p l k ∧ (0 ≤ firstV p l k ↔ l.any p = true)
  | [], k => by simp [firstV]
  | x :: r, k => by
    have := firstV_lo (p := p) r (k + 1)
    simp only [firstV, List.any_cons]
    by_cases h : p x = true
    · simp [h]
    · simp only [Bool.not_eq_true] at h; simp [h, this]

theorem firstV_hit {α : Type} {p : α → Bool} (d : α) : ∀ (l : List α) (k j : Nat) (_ : j < l.length), (∀ i, i < j → p (l.getD i d) = false) → p (l.getD j d) = true → firstV p l k = (k + j : Nat)
  | x :: r, k, 0, _, _, hj => by simp at hj; simp [firstV, hj]
  | x :: r, k, j + 1, h, hi, hj => by
    have h0 := hi 0 (by omega)
    simp at h0
    simp [firstV, h0]
    rw [firstV_hit d r (k + 1) j (by simpa using h) (fun i hl => by simpa using hi (i + 1) (by omega)) (by simpa using hj)]
    simp; omega

/-- What is ahead of the first one that is to go, and whether one is. -/
theorem firstV_spec {α : Type} {p : α → Bool} (d : α) : ∀ (l : List α) (k : Nat), (firstV p l k = -1 ∧ l.filter (fun x => !p x) = l) ∨ ∃ j : Nat, j < l.length ∧ firstV p l k = ((k + j : Nat) : Int) ∧ p (l.getD j d) = true ∧ (l.take j).filter (fun x => !p x) = l.take j
  | [], k => .inl ⟨rfl, rfl⟩
  | x :: r, k => by
    by_cases h : p x = true
    · right; exact ⟨0, by simp, by simp [firstV, h], by simpa using h, by simp⟩
    · simp only [Bool.not_eq_true] at h
      rcases firstV_spec (p := p) d r (k + 1) with ⟨h1, h2⟩ | ⟨j, h1, h2, h3, h4⟩
      · left; exact ⟨by simp [firstV, h, h1], by simp [h, h2]⟩
      · right
        refine ⟨j + 1, by simpa using h1, ?_, by simpa using h3, by simp [h, h4]⟩
        simp [firstV, h, h2]; omega

end Go.Proofs.YtieglgahfeecbaaGreatDoor

namespace Go.Proofs.YtieglgahfeecbaaGreatDoor
open Go.RowKit Go.Sort

/-- One thing that a call may do with a channel. -/
structure Cse where
  (dir handle value : Int)
deriving DecidableEq
def Cse.cells (a : Cse) : List Value := [.int .i64 a.dir, .int .i64 a.handle, .int .i64 a.value]
def Cse.none : Cse := ⟨0, 0, 0⟩
abbrev cseV (a : Cse) : Value := .agg #[.int .i64 a.dir, .int .i64 a.handle, .int .i64 a.value]
instance : Cellful Cse where
  cells := Cse.cells
  s := 3
  dflt := Cse.none
  len := fun _ => rfl
  one := fun a u hu => by
    simp only [Cse.cells, List.mem_cons, List.not_mem_nil, or_false] at hu
    rcases hu with rfl | rfl | rfl <;> rfl

theorem cse_cells {w : World} {b o : Nat} {l : List Cse} (hc : ∀ k v, (rows l)[k]? = some v → w.cell? ⟨b, o + k, none⟩ = some v) {k : Nat} (hk : k < l.length) {x : Cse} (hx : l.getD k Cse.none = x) :
    w.cell? ⟨b, o + k * 3, none⟩ = some (.int .i64 x.dir) ∧ w.cell? ⟨b, o + k * 3 + 1, none⟩ = some (.int .i64 x.handle) ∧ w.cell? ⟨b, o + k * 3 + 2, none⟩ = some (.int .i64 x.value) := by
  have h := rec_cell hc hk hx
  exact ⟨h 0 _ rfl, h 1 _ rfl, h 2 _ rfl⟩

/-- A call. -/
structure Reqr where
  (kind arg value : Int)
  (dflt : Bool)
  (A : Option Addr)
  (n c : Nat)
abbrev reqV (q : Reqr) : Value := .agg #[.int .i64 q.kind, .int .i64 q.arg, .int .i64 q.value, .bool q.dflt, .slice q.A q.n q.c]
def Reqr.cells (q : Reqr) : List Value := [.int .i64 q.kind, .int .i64 q.arg, .int .i64 q.value, .bool q.dflt, .slice q.A q.n q.c]

/-- Its cases lie so. -/
structure ReqAt (w : World) (q : Reqr) (l : List Cse) : Prop where
  len : l.length = q.n
  rd : Rd w q.A (rows l)
theorem ReqAt.below {w w' : World} {q : Reqr} {l : List Cse} (h : ReqAt w q l) (hb : Below w.heap.size w w') : ReqAt w' q l := ⟨h.len, h.rd.below hb⟩

def selS : ByteArray := ⟨#[115, 101, 108, 101, 99, 116]⟩
def tryS (d : Bool) : ByteArray := if d then ⟨#[116, 114, 121]⟩ else ⟨#[]⟩
def namedS (q : Reqr) (l : List Cse) : ByteArray :=
  if q.n = 1 then (if (l.getD 0 Cse.none).dir = 1 then tryS q.dflt ++ ⟨#[115, 101, 110, 100]⟩ else if (l.getD 0 Cse.none).dir = 2 then tryS q.dflt ++ ⟨#[114, 101, 99, 118]⟩ else selS) else selS
def nameS (q : Reqr) (l : List Cse) : ByteArray :=
  if q.kind = 3 then namedS q l
  else if q.kind = 1 then ⟨#[109, 97, 107, 101]⟩
  else if q.kind = 2 then ⟨#[102, 114, 101, 101]⟩
  else if q.kind = 4 then ⟨#[99, 108, 111, 115, 101]⟩
  else if q.kind = 5 then ⟨#[108, 101, 110]⟩
  else if q.kind = 6 then ⟨#[99, 97, 112]⟩
  else if q.kind = 7 then ⟨#[99, 97, 110, 99, 101, 108]⟩
  else if q.kind = 8 then ⟨#[112, 117, 116]⟩
  else if q.kind = 9 then ⟨#[116, 97, 107, 101]⟩
  else ⟨#[]⟩

theorem reqBox {w : World} {g : Nat} {q : Reqr} (h : Blk w g 40 q.cells) :
    w.cell? ⟨g, 0, none⟩ = some (.int .i64 q.kind) ∧ w.cell? ⟨g, 1, none⟩ = some (.int .i64 q.arg) ∧ w.cell? ⟨g, 2, none⟩ = some (.int .i64 q.value) ∧ w.cell? ⟨g, 3, none⟩ = some (.bool q.dflt) ∧ w.cell? ⟨g, 4, none⟩ = some (.slice q.A q.n q.c) :=
  ⟨h.cell rfl, h.cell rfl, h.cell rfl, h.cell rfl, h.cell rfl⟩

def recvB (l : List Cse) (k : Int) : Bool := decide (0 ≤ k) && decide (k < l.length) && (l.getD k.toNat Cse.none).dir == 2

end Go.Proofs.YtieglgahfeecbaaGreatDoor

namespace Go.Proofs.YtieglgahfeecbaaGreatDoor

def In64 (n : Int) : Prop := -9223372036854775808 ≤ n ∧ n ≤ 9223372036854775807

end Go.Proofs.YtieglgahfeecbaaGreatDoor

namespace Go.Proofs.YtieglgahfeecbaaGreatDoor
open Go.RowKit Go.Sort

/-- What a call came to, as told. -/
structure Resr where
  (seq case_ code value : Int)
abbrev rsV (r : Resr) : Value := .agg #[.int .i64 r.seq, .int .i64 r.case_, .int .i64 r.code, .int .i64 r.value]
def Resr.cells (r : Resr) : List Value := [.int .i64 r.seq, .int .i64 r.case_, .int .i64 r.code, .int .i64 r.value]
abbrev outV (v c : Int) (ok : Bool) (err : Value) : Value := .agg #[.int .i64 v, .int .i64 c, .bool ok, err]
def outC (v c : Int) (ok : Bool) (err : Value) : List Value := [.int .i64 v, .int .i64 c, .bool ok, err]
def thrS : ByteArray := ⟨#[116, 104, 114, 101, 97, 100]⟩

theorem rsBox {w : World} {g : Nat} {r : Resr} (h : Blk w g 42 r.cells) :
    w.cell? ⟨g, 0, none⟩ = some (.int .i64 r.seq) ∧ w.cell? ⟨g, 1, none⟩ = some (.int .i64 r.case_) ∧ w.cell? ⟨g, 2, none⟩ = some (.int .i64 r.code) ∧ w.cell? ⟨g, 3, none⟩ = some (.int .i64 r.value) :=
  ⟨h.cell rfl, h.cell rfl, h.cell rfl, h.cell rfl⟩
def HandlesOk (l : List Cse) : Prop := ∀ a ∈ l, In64 a.handle

end Go.Proofs.YtieglgahfeecbaaGreatDoor

namespace Go.Proofs.YtieglgahfeecbaaGreatDoor
open Go.RowKit Go.Sort

/-- A channel, and what lies in it. -/
structure Chn where
  (gen cap : Int)
  (used closed : Bool)
  (A : Option Addr)
  (c : Nat)
  (buf : List Int)
def Chn.cells (a : Chn) : List Value := [.int .i64 a.gen, .int .i64 a.cap, .bool a.used, .bool a.closed, .slice a.A a.buf.length a.c]
def Chn.none : Chn := ⟨0, 0, false, false, .none, 0, []⟩
instance : Cellful Chn where
  cells := Chn.cells
  s := 5
  dflt := Chn.none
  len := fun _ => rfl
  one := fun a u hu => by
    simp only [Chn.cells, List.mem_cons, List.not_mem_nil, or_false] at hu
    rcases hu with rfl | rfl | rfl | rfl | rfl <;> rfl
theorem chn_cells {w : World} {b o : Nat} {l : List Chn} (hc : ∀ k v, (rows l)[k]? = some v → w.cell? ⟨b, o + k, none⟩ = some v) {k : Nat} (hk : k < l.length) {x : Chn} (hx : l.getD k Chn.none = x) :
    w.cell? ⟨b, o + k * 5, none⟩ = some (.int .i64 x.gen) ∧ w.cell? ⟨b, o + k * 5 + 1, none⟩ = some (.int .i64 x.cap) ∧ w.cell? ⟨b, o + k * 5 + 2, none⟩ = some (.bool x.used) ∧ w.cell? ⟨b, o + k * 5 + 3, none⟩ = some (.bool x.closed) ∧ w.cell? ⟨b, o + k * 5 + 4, none⟩ = some (.slice x.A x.buf.length x.c) := by
  have h := rec_cell hc hk hx
  exact ⟨h 0 _ rfl, h 1 _ rfl, h 2 _ rfl, h 3 _ rfl, h 4 _ rfl⟩
abbrev chnV (a : Chn) : Value := .agg #[.int .i64 a.gen, .int .i64 a.cap, .bool a.used, .bool a.closed, .slice a.A a.buf.length a.c]

/-- A thread's call that waits, and its cases. -/
structure Wtr where
  (on : Bool)
  (ticket seq : Int)
  (A : Option Addr)
  (c : Nat)
  (cs : List Cse)
def Wtr.cells (a : Wtr) : List Value := [.bool a.on, .int .i64 a.ticket, .int .i64 a.seq, .slice a.A a.cs.length a.c]
def Wtr.none : Wtr := ⟨false, 0, 0, .none, 0, []⟩
instance : Cellful Wtr where
  cells := Wtr.cells
  s := 4
  dflt := Wtr.none
  len := fun _ => rfl
  one := fun a u hu => by
    simp only [Wtr.cells, List.mem_cons, List.not_mem_nil, or_false] at hu
    rcases hu with rfl | rfl | rfl | rfl <;> rfl
theorem wtr_cells {w : World} {b o : Nat} {l : List Wtr} (hc : ∀ k v, (rows l)[k]? = some v → w.cell? ⟨b, o + k, none⟩ = some v) {k : Nat} (hk : k < l.length) {x : Wtr} (hx : l.getD k Wtr.none = x) :
    w.cell? ⟨b, o + k * 4, none⟩ = some (.bool x.on) ∧ w.cell? ⟨b, o + k * 4 + 1, none⟩ = some (.int .i64 x.ticket) ∧ w.cell? ⟨b, o + k * 4 + 2, none⟩ = some (.int .i64 x.seq) ∧ w.cell? ⟨b, o + k * 4 + 3, none⟩ = some (.slice x.A x.cs.length x.c) := by
  have h := rec_cell hc hk hx
  exact ⟨h 0 _ rfl, h 1 _ rfl, h 2 _ rfl, h 3 _ rfl⟩

/-- Results as rows. -/
def Resr.none : Resr := ⟨0, 0, 0, 0⟩
instance : Cellful Resr where
  cells := Resr.cells
  s := 4
  dflt := Resr.none
  len := fun _ => rfl
  one := fun a u hu => by
    simp only [Resr.cells, List.mem_cons, List.not_mem_nil, or_false] at hu
    rcases hu with rfl | rfl | rfl | rfl <;> rfl
theorem rsr_cells {w : World} {b o : Nat} {l : List Resr} (hc : ∀ k v, (rows l)[k]? = some v → w.cell? ⟨b, o + k, none⟩ = some v) {k : Nat} (hk : k < l.length) {x : Resr} (hx : l.getD k Resr.none = x) :
    w.cell? ⟨b, o + k * 4, none⟩ = some (.int .i64 x.seq) ∧ w.cell? ⟨b, o + k * 4 + 1, none⟩ = some (.int .i64 x.case_) ∧ w.cell? ⟨b, o + k * 4 + 2, none⟩ = some (.int .i64 x.code) ∧ w.cell? ⟨b, o + k * 4 + 3, none⟩ = some (.int .i64 x.value) := by
  have h := rec_cell hc hk hx
  exact ⟨h 0 _ rfl, h 1 _ rfl, h 2 _ rfl, h 3 _ rfl⟩

end Go.Proofs.YtieglgahfeecbaaGreatDoor
