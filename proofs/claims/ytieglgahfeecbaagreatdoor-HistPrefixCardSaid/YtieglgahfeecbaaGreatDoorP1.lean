/- How many words a thing's state and a node take, of any shape: the program's functions and the document's, as plain numbers. -/
import Derived.Test.YtieglgahfeecbaaGreatDoorProg
import Derived.WalkKit
import Derived.WalkSpells
import Derived.WalkLawsBesides
import Derived.Lib.Hide
import Derived.Deep.QuietTactic
import Derived.BigQuiet
import Derived.Lib.QuietBelow
import Derived.RegionTactic
import Derived.ChangeAlike
import Derived.Laws.MakeOwn
import Derived.OwnWalk
import Derived.Laws.OwnMore
import Derived.Deep.RegionLaw
import Derived.Deep.RegionHeld3
import Derived.Deep.DrawnRows
import Derived.Deep.LoopGhost
import Derived.Deep.DeepCutAuto
import Derived.Deep.RegionHeld
import Derived.Laws.ResultCell
import Derived.Laws.Rows
import Derived.IntWalk
set_option maxHeartbeats 64000000
set_option maxRecDepth 100000
namespace Go.Proofs.YtieglgahfeecbaaGreatDoor
open Go.RowKit Go.Sort
attribute [local go_sem ↓] Go.wp_at_zero Go.wp_at_succ
theorem Zd {p : Prop} (h : p) : RowKit.Hid p := Lib.hid h
theorem Nrq {α : Type} : (∀ (l : List α) (i : Nat) (h : i < l.toArray.size), l.toArray[i] = l[i]'(by simpa using h)) ∧ (∀ (x : α) (l : List α) (i : Nat) (h : i + 1 < (x :: l).length), (x :: l)[i + 1] = l[i]'(Nat.lt_of_succ_lt_succ h)) ∧ ∀ (x : α) (l : List α) (h : 0 < (x :: l).length), (x :: l)[0] = x :=
 ⟨fun _ _ _ => rfl, fun _ _ _ _ => rfl, fun _ _ _ => rfl⟩
theorem Nrs : (∀ (a : Act) (v : Value) (d : Tmp), a.put (some d) v = { tmps := a.tmps.setIfInBounds d v, defers := a.defers }) ∧ (∀ (a : Act) (v : Value), a.put none v = a) ∧ (∀ (l : List Value) (i : Nat) (v : Value), l.toArray.setIfInBounds i v = (l.set i v).toArray) ∧ (∀ (x v : Value) (l : List Value), (x :: l).set 0 v = v :: l) ∧ ∀ (x v : Value) (l : List Value) (i : Nat), (x :: l).set (i + 1) v = x :: l.set i v :=
 ⟨fun _ _ _ => rfl, fun _ _ => rfl, fun l i v => by simp, fun _ _ _ => rfl, fun _ _ _ _ => rfl⟩
theorem btr {a w w' : World} (h : Below a.heap.size a w) (h2 : Below w.heap.size w w') : Below a.heap.size a w' := h.trans (h2.mono h.size)
def Rd (w : World) (A : Option Addr) (xs : List Value) : Prop :=
 xs = [] ∨ ∃ b o, A = some ⟨b, o, none⟩ /\ b < w.heap.size /\ ∀ k v, xs[k]? = some v -> w.cell? ⟨b, o + k, none⟩ = some v
theorem Rd.below {w w' : World} {A : Option Addr} {xs : List Value} (h : Rd w A xs) (hb : Below w.heap.size w w') : Rd w' A xs := by
 rcases h with h | ⟨b, o, rfl, hlt, hc⟩
 . exact .inl h
 . refine .inr ⟨b, o, rfl, Nat.lt_of_lt_of_le hlt hb.size, fun k v hk => ?_⟩
   rw [hb.cell (p := ⟨b, o + k, none⟩) hlt]; exact hc k v hk
theorem Rd.alloc {w : World} {A : Option Addr} {xs : List Value} (h : Rd w A xs) (ob : Obj) : Rd (w.alloc ob) A xs :=
 h.below ((Below.refl _ _).alloc (Nat.le_refl _) _)
theorem Rd.at_ {w : World} {A : Option Addr} {xs : List Value} (h : Rd w A xs) (hne : 0 < xs.length) :
  ∃ b o, A = some ⟨b, o, none⟩ /\ b < w.heap.size /\ ∀ k v, xs[k]? = some v -> w.cell? ⟨b, o + k, none⟩ = some v := by
 rcases h with rfl | h
 . simp at hne
 . exact h
def ints (l : List Int) : List Value := l.map (Value.int .i64)
theorem ints_at {l : List Int} {k : Nat} (h : k < l.length) : (ints l)[k]? = some (.int .i64 (l.getD k 0)) := by
 simp [ints, List.getD, List.getElem?_eq_getElem h]
theorem ints_length (l : List Int) : (ints l).length = l.length := by simp [ints]
theorem ret_int {k : IntKind} {a b : Int} (h : a = b) : Ending.returned (.int k a) = .returned (.int k b) := by rw [h]
theorem ret_bool {a b : Bool} (h : a = b) : Ending.returned (.bool a) = .returned (.bool b) := by rw [h]
theorem Below.drewN' {B : Nat} {a w : World} (h : Below B a w) (n : Nat) : Below B a (w.drewN n) := ⟨h.os, h.tape, h.output, h.size, h.block⟩
section
open Go.RowKit Go.Sort
def Blk (w : World) (g : Nat) (t : TypeId) (cs : List Value) : Prop := w.heap[g]? = some (.cells cs.toArray t (0, 0))
section
variable {w w' : World} {g : Nat} {t : TypeId} {cs : List Value}
theorem Blk.lt (h : Blk w g t cs) : g < w.heap.size := by
 rcases Nat.lt_or_ge g w.heap.size with hlt | hge
 . exact hlt
 . unfold Blk at h; rw [Array.getElem?_eq_none hge] at h; cases h
theorem Blk.cell (h : Blk w g t cs) {i : Nat} {v : Value} (hi : cs[i]? = some v) : w.cell? ⟨g, i, none⟩ = some v := by
 unfold Blk at h
 simp [World.cell?, h, hi]
theorem Blk.frozen (h : Blk w g t cs) (i : Nat) : w.frozen? ⟨g, i, none⟩ = false := by
 unfold Blk at h
 simp [World.frozen?, h]
theorem Blk.new (w : World) (t : TypeId) (cs : List Value) : Blk (w.alloc (.cells cs.toArray t)) w.heap.size t cs := heap_alloc_new w _
theorem Blk.alloc (h : Blk w g t cs) (o : Obj) : Blk (w.alloc o) g t cs := (Below.heap_alloc w o g h.lt).trans h
theorem Blk.set_ (h : Blk w g t cs) (i : Nat) (u : Value) : Blk (w.setCell ⟨g, i, none⟩ u) g t (cs.set i u) := by
 unfold Blk at h ⊢
 simp [World.setCell, Array.getElem?_modify, h]
theorem Blk.below {B : Nat} (h : Blk w g t cs) (hb : Below B w w') (hg : g < B) : Blk w' g t cs := (hb.block g hg).trans h
theorem Blk.drew (h : Blk w g t cs) : Blk w.drew g t cs := h
theorem Blk.rd (h : Blk w g t cs) : Rd w (some ⟨g, 0, none⟩) cs := .inr ⟨g, 0, rfl, h.lt, fun k v hk => by rw [Nat.zero_add]; exact h.cell hk⟩
end
structure Only (g : Nat) (a w : World) : Prop where
 os : w.os = a.os
 tape : w.tape = a.tape
 output : w.output = a.output
 size : a.heap.size <= w.heap.size
 block : ∀ k, k < a.heap.size -> k ≠ g -> w.heap[k]? = a.heap[k]?
section
variable {g : Nat} {a b w w' : World}
theorem Only.refl (g : Nat) (w : World) : Only g w w := ⟨rfl, rfl, rfl, Nat.le_refl _, fun _ _ _ => rfl⟩
theorem Only.trans (h : Only g a b) (k : Only g b w) : Only g a w :=
 ⟨k.os.trans h.os, k.tape.trans h.tape, k.output.trans h.output, Nat.le_trans h.size k.size, fun i hi hn => (k.block i (Nat.lt_of_lt_of_le hi h.size) hn).trans (h.block i hi hn)⟩
theorem Only.of_below (h : Below a.heap.size a w) : Only g a w := ⟨h.os, h.tape, h.output, h.size, fun i hi _ => h.block i hi⟩
theorem Only.alloc (h : Only g a w) (o : Obj) : Only g a (w.alloc o) := h.trans (.of_below ((Below.refl _ _).alloc (Nat.le_refl _) _))
theorem Only.drew (h : Only g a w) : Only g a w.drew := ⟨h.os, h.tape, h.output, h.size, h.block⟩
theorem Only.set_ (h : Only g a w) (i : Nat) (u : Value) : Only g a (w.setCell ⟨g, i, none⟩ u) :=
 h.trans ⟨rfl, rfl, rfl, by simp [World.setCell], fun k _ hn => Below.heap_setCell _ _ _ _ hn⟩
theorem Only.below {B : Nat} (h : Only g a w) (hg : B <= g) (hB : B <= a.heap.size) : Below B a w := ⟨h.os, h.tape, h.output, h.size, fun k hk => h.block k (by omega) (by omega)⟩
end
theorem int_info : (Tryz.prog.info? 3).map (fun i => (i.zero, i.size, i.bytes)) = some (some (.int .i64 0), 1, 8) := by kernel_rfl
theorem ints_set (l : List Int) (i : Nat) (x : Int) : (ints l).set i (.int .i64 x) = ints (l.set i x) := by simp [ints, List.map_set]
end
theorem own_rd {w : World} {base : Nat} {e : TypeId} {s n : Nat} {A : Option Addr} {c : Nat} {xs : List Value} (h : w.ownsRow base e s (.slice A n c) n xs) : Rd w A xs := by
 rcases h with ⟨h1, ⟨hv, hn⟩ | ⟨g, cap, cur, hv, hg, hh, hnc, hm, hsz, hx⟩⟩
 . left
   exact List.eq_nil_of_length_eq_zero (by rw [h1, hn]; simp)
 . injection hv with hA hn' hc
   subst hA
   have hlt : g < w.heap.size := by
    rcases Nat.lt_or_ge g w.heap.size with hlt | hge
    . exact hlt
    . rw [Array.getElem?_eq_none hge] at hh; cases hh
   refine .inr ⟨g, 0, rfl, hlt, fun k v hk => ?_⟩
   rw [Nat.zero_add]
   have hk' : cur.toList[k]? = some v := by
    rw [<- hx] at hk
    rw [List.getElem?_take] at hk
    split at hk
    . exact hk
    . cases hk
   simp only [World.cell?, hh]
   simpa using hk'
theorem own_block {w : World} {base : Nat} {e : TypeId} {s n : Nat} {v : Value} {xs : List Value} (h : w.ownsRow base e s v n xs) : ∀ k, v.ownBlock = some k -> base <= k := by
 intro k hk
 rcases h.2 with ⟨rfl, _⟩ | ⟨g, cap, cur, rfl, hg, _⟩
 . simp [Value.ownBlock] at hk
 . simp only [Value.ownBlock, Option.some.injEq] at hk; omega
theorem own_grown {w w' : World} {base : Nat} {e : TypeId} {s n : Nat} {v : Value} {xs : List Value} (h : w.ownsRow base e s v n xs) (hb : base <= w.heap.size) (hg : w.grownBy w' v.ownBlock) : Below base w w' :=
 (Below.refl _ _).grown hg hb (own_block h)
theorem own_below {w w' : World} {base : Nat} {e : TypeId} {s n : Nat} {v : Value} {xs : List Value} (h : w.ownsRow base e s v n xs) (hb : Below w.heap.size w w') : w'.ownsRow base e s v n xs := by
 refine ⟨h.1, ?_⟩
 rcases h.2 with h2 | ⟨g, cap, cur, hv, hg, hh, r⟩
 . exact .inl h2
 . have hlt : g < w.heap.size := by
    rcases Nat.lt_or_ge g w.heap.size with hlt | hge
    . exact hlt
    . rw [Array.getElem?_eq_none hge] at hh; cases hh
   exact .inr ⟨g, cap, cur, hv, hg, (hb.block g hlt).trans hh, r⟩
theorem own_nil (w : World) (base : Nat) (e : TypeId) (s : Nat) : w.ownsRow base e s (.slice none 0 0) 0 [] := ⟨by simp, .inl ⟨rfl, rfl⟩⟩
theorem new1 (w : World) (v : Value) (t : TypeId) : (w.alloc (.cells #[v] t)).cell? ⟨w.heap.size, 0, none⟩ = some v := by simp
theorem append_int {ops : Array Oper} {rest : List Oper} {o : Oper} {a : Act} {Q : Exit -> Act -> World -> Prop} {w : World} (s x : Operand) (hgd : o.guard = none)
  (ho : o.op = .call { callee := .builtin .append, args := #[s, x], argTypes := #[22, 22] })
  (base : Nat) (A : Option Addr) (n c : Nat) (l : List Int) (z : Int) (g c' : Nat) (hs : a.eval s = .slice A n c) (hown : w.ownsRow base 3 1 (.slice A n c) n (ints l))
  (hx : a.eval x = .slice (some ⟨g, 0, none⟩) 1 c') (hcell : w.cell? ⟨g, 0, none⟩ = some (.int .i64 z)) (hlen : n <= 2097152) (hbase : base <= w.heap.size)
  (h : ∀ A' c'' w', w'.ownsRow base 3 1 (.slice A' (n + 1) c'') (n + 1) (ints (l ++ [z])) -> Below base w w' -> w.grownBy w' (Value.ownBlock (.slice A n c)) -> wpList Tryz.prog ops Q rest (a.put o.dst (.slice A' (n + 1) c'')) w') :
  wpList Tryz.prog ops Q (o :: rest) a w := by
 obtain ⟨i0, hi, hz0, hz1, hz2⟩ := info_parts int_info
 refine wpList_append_own w hgd s x 22 ho base 3 i0 (.int .i64 0) 1 8 Tryz.underlying22 hi hz0 hz1 hz2 rfl (by decide) _ n (ints l) hs hown ⟨g, 0, none⟩ 1 c' [.int .i64 z] hx rfl ?_ ?_ ?_ ?_ hbase ?_
 . intro j u hj
   match j, hj with
   | 0, hj => simp at hj; subst hj; simpa [Addr.add] using hcell
 . intro u hu; simp at hu; subst hu; rfl
 . unfold maxLen; omega
 . omega
 . intro v' w' hown' hg _
   obtain ⟨g', cap', hv⟩ : ∃ g' cap', v' = .slice (some ⟨g', 0, none⟩) (n + 1) cap' := by
    rcases hown'.2 with ⟨_, h0⟩ | ⟨g', cap', _, hv, _⟩
    . omega
    . exact ⟨g', cap', hv⟩
   subst hv
   refine h _ _ w' ?_ (own_grown hown hbase hg) hg
   rw [show ints (l ++ [z]) = ints l ++ [.int .i64 z] by simp [ints]]
   exact hown'
section
open Go.RowKit Go.Sort
def RetOwn (E : TypeId) (s n : Nat) (xs : List Value) (w : World) (e : Ending) (w' : World) : Prop :=
 ∃ A c, e = .returned (.slice A n c) /\ w'.ownsRow w.heap.size E s (.slice A n c) n xs /\ Below w.heap.size w w'
theorem rd_add {w : World} {ad : Addr} {xs : List Value} (h : Rd w (some ad) xs) : ∀ j u, xs[j]? = some u -> w.cell? (ad.add j) = some u := by
 intro j u hj
 rcases h with rfl | ⟨b, o, he, _, hc⟩
 . simp at hj
 . injection he with he
   subst he
   have e1 : (Addr.add ⟨b, o, none⟩ j) = ⟨b, o + j, none⟩ := by
    unfold Addr.add; split
    . simp_all
    . rfl
   rw [e1]; exact hc j u hj
theorem own_empty (w : World) (E : TypeId) (s : Nat) : (w.alloc (.cells #[] E)).ownsRow w.heap.size E s (.slice (some ⟨w.heap.size, 0, none⟩) 0 0) 0 [] :=
 ⟨by simp, .inr ⟨w.heap.size, 0, #[], rfl, Nat.le_refl _, heap_alloc_new w _, Nat.le_refl _, by unfold maxLen; omega, by simp, by simp⟩⟩
theorem own_slice {w : World} {base : Nat} {e : TypeId} {s n : Nat} {v : Value} {xs : List Value} (h : w.ownsRow base e s v n xs) : ∃ A c, v = .slice A n c := by
 rcases h.2 with ⟨rfl, rfl⟩ | ⟨g, cap, cur, rfl, _⟩
 . exact ⟨_, _, rfl⟩
 . exact ⟨_, _, rfl⟩
theorem own_le {w : World} {base : Nat} {e : TypeId} {s n : Nat} {A : Option Addr} {c : Nat} {xs : List Value} (h : w.ownsRow base e s (.slice A n c) n xs) : n <= c := by
 rcases h.2 with ⟨hv, rfl⟩ | ⟨g, cap, cur, hv, _, _, hnc, _⟩
 . exact Nat.zero_le _
 . injection hv with _ _ hc
   omega
theorem own_some {w : World} {base : Nat} {e : TypeId} {s n : Nat} {A : Option Addr} {c : Nat} {xs : List Value} (h : w.ownsRow base e s (.slice A n c) n xs) (hn : 0 < n) : ∃ g, A = some ⟨g, 0, none⟩ /\ base <= g /\ g < w.heap.size := by
 rcases h.2 with ⟨hv, rfl⟩ | ⟨g, cap, cur, hv, hb, hh, hnc, _⟩
 . omega
 . injection hv with hA _ _
   refine ⟨g, hA, hb, ?_⟩
   rcases Nat.lt_or_ge g w.heap.size with hlt | hge
   . exact hlt
   . rw [Array.getElem?_eq_none hge] at hh; cases hh
theorem own_none {w : World} {base : Nat} {e : TypeId} {s n : Nat} {A : Option Addr} {c : Nat} {xs : List Value} (h : w.ownsRow base e s (.slice A n c) n xs) (hA : A = none) : n = 0 /\ c = 0 /\ xs = [] := by
 have hl := h.1
 rcases h.2 with ⟨hv, rfl⟩ | ⟨g, cap, cur, hv, _⟩
 . injection hv with _ _ hc
   exact ⟨rfl, hc, List.eq_nil_of_length_eq_zero (by rw [hl]; simp)⟩
 . injection hv with hA' _ _
   rw [hA] at hA'; cases hA'
theorem own_lower {w : World} {base b : Nat} {e : TypeId} {s n : Nat} {v : Value} {xs : List Value} (h : w.ownsRow base e s v n xs) (hb : b <= base) : w.ownsRow b e s v n xs := by
 refine ⟨h.1, ?_⟩
 rcases h.2 with h2 | ⟨g, cap, cur, hv, hg, r⟩
 . exact .inl h2
 . exact .inr ⟨g, cap, cur, hv, by omega, r⟩
theorem grown_refl (w : World) (r : Option Nat) : w.grownBy w r := ⟨rfl, rfl, rfl, Nat.le_refl _, fun _ _ _ => rfl⟩
theorem wp_app {o : Oper} {a : Act} {w : World} {K : Act -> World -> Prop} {Q : Exit -> Act -> World -> Prop} (s x : Operand) (t e : TypeId)
  (ho : o.op = .call { callee := .builtin .append, args := #[s, x], argTypes := #[t, t] })
  (base : Nat) (z : Value) (size bytes : Nat) (ht : Tryz.prog.underlying t = some (.slice e)) (hinfo : (Tryz.prog.info? e).map (fun i => (i.zero, i.size, i.bytes)) = some (some z, size, bytes)) (hzs : z.cells.size = size) (hsz : 0 < size)
  (A : Option Addr) (n c : Nat) (xs : List Value) (hs : a.eval s = .slice A n c) (hown : w.ownsRow base e size (.slice A n c) n xs)
  (B : Option Addr) (m d : Nat) (news : List Value) (hx : a.eval x = .slice B m d) (hd : B = none -> m = 0 /\ d = 0) (hl : news.length = m * size) (hR : Rd w B news) (h1 : ∀ u ∈ news, u.oneCell' = true)
  (N : Nat) (hN : n + m = N) (ys : List Value) (hys : xs ++ news = ys) (h63 : N <= maxLen) (hbytes : N * bytes <= 140737488355328) (hbase : base <= w.heap.size)
  (h : ∀ A' c' w', w'.ownsRow base e size (.slice A' N c') N ys -> w.grownBy w' (Value.ownBlock (.slice A n c)) -> Below base w w' -> K (a.put o.dst (.slice A' N c')) w') : o.wp Tryz.prog a w K Q := by
 subst hN hys
 obtain ⟨i0, hi, hz0, hz1, hz2⟩ := info_parts hinfo
 cases B with
 | some ad =>
   refine wp_append_own w s x t ho base e i0 z size bytes ht hi hz0 hz1 hz2 hzs hsz _ n xs hs hown ad m d news hx hl (rd_add hR) h1 h63 hbytes hbase fun v' w' hown' hg _ => ?_
   obtain ⟨A', c', rfl⟩ := own_slice hown'
   exact h A' c' w' hown' hg (own_grown hown hbase hg)
 | none =>
   obtain ⟨rfl, rfl⟩ := hd rfl
   have hnil : news = [] := List.eq_nil_of_length_eq_zero (by rw [hl]; simp)
   subst hnil
   have hrun := run_append_owned_none (P := Tryz.prog) (w := w) base t o.type e i0 size ht hi _ n xs hown
   unfold Oper.wp
   simp only [execOp, ho, resolve, invoke, builtin, Sem.run_bind, Sem.run_pure, Result.andThen_ok, List.map_toArray, List.map_cons, List.map_nil, hs, hx, hrun]
   exact h A c w (by simpa using hown) (grown_refl _ _) (Below.refl _ _)
theorem step_app {ops : Array Oper} {o : Oper} {a : Act} {w : World} {K : Act -> World -> Prop} {Q : Exit -> Act -> World -> Prop} {F : Prop} (hgd : o.guard = none) (s x : Operand) (t e : TypeId)
  (ho : o.op = .call { callee := .builtin .append, args := #[s, x], argTypes := #[t, t] })
  (base : Nat) (z : Value) (size bytes : Nat) (ht : Tryz.prog.underlying t = some (.slice e)) (hinfo : (Tryz.prog.info? e).map (fun i => (i.zero, i.size, i.bytes)) = some (some z, size, bytes)) (hzs : z.cells.size = size) (hsz : 0 < size)
  (A : Option Addr) (n c : Nat) (xs : List Value) (hs : a.eval s = .slice A n c) (hown : w.ownsRow base e size (.slice A n c) n xs)
  (B : Option Addr) (m d : Nat) (news : List Value) (hx : a.eval x = .slice B m d) (hd : B = none -> m = 0 /\ d = 0) (hl : news.length = m * size) (hR : Rd w B news) (h1 : ∀ u ∈ news, u.oneCell' = true)
  (N : Nat) (hN : n + m = N) (ys : List Value) (hys : xs ++ news = ys) (h63 : N <= maxLen) (hbytes : N * bytes <= 140737488355328) (hbase : base <= w.heap.size)
  (h : ∀ A' c' w', w'.ownsRow base e size (.slice A' N c') N ys -> w.grownBy w' (Value.ownBlock (.slice A n c)) -> Below base w w' -> K (a.put o.dst (.slice A' N c')) w') :
  if Region.wanted o (yielded ops a.tmps) = true then Oper.wp Tryz.prog o a w K Q else F := by
 have hw : Region.wanted o (yielded ops a.tmps) = true := by simp [Region.wanted, hgd]
 rw [if_pos hw]
 exact wp_app s x t e ho base z size bytes ht hinfo hzs hsz A n c xs hs hown B m d news hx hd hl hR h1 N hN ys hys h63 hbytes hbase h
theorem wpList_app {ops : Array Oper} {rest : List Oper} {o : Oper} {a : Act} {w : World} {Q : Exit -> Act -> World -> Prop} (hgd : o.guard = none) (s x : Operand) (t e : TypeId)
  (ho : o.op = .call { callee := .builtin .append, args := #[s, x], argTypes := #[t, t] })
  (base : Nat) (z : Value) (size bytes : Nat) (ht : Tryz.prog.underlying t = some (.slice e)) (hinfo : (Tryz.prog.info? e).map (fun i => (i.zero, i.size, i.bytes)) = some (some z, size, bytes)) (hzs : z.cells.size = size) (hsz : 0 < size)
  (A : Option Addr) (n c : Nat) (xs : List Value) (hs : a.eval s = .slice A n c) (hown : w.ownsRow base e size (.slice A n c) n xs)
  (B : Option Addr) (m d : Nat) (news : List Value) (hx : a.eval x = .slice B m d) (hd : B = none -> m = 0 /\ d = 0) (hl : news.length = m * size) (hR : Rd w B news) (h1 : ∀ u ∈ news, u.oneCell' = true)
  (N : Nat) (hN : n + m = N) (ys : List Value) (hys : xs ++ news = ys) (h63 : N <= maxLen) (hbytes : N * bytes <= 140737488355328) (hbase : base <= w.heap.size)
  (h : ∀ A' c' w', w'.ownsRow base e size (.slice A' N c') N ys -> w.grownBy w' (Value.ownBlock (.slice A n c)) -> Below base w w' -> wpList Tryz.prog ops Q rest (a.put o.dst (.slice A' N c')) w') : wpList Tryz.prog ops Q (o :: rest) a w :=
 wpList_plain hgd fun _ hK => wp_app s x t e ho base z size bytes ht hinfo hzs hsz A n c xs hs hown B m d news hx hd hl hR h1 N hN ys hys h63 hbytes hbase fun A' c' w' h2 h3 h4 => hK _ _ (h A' c' w' h2 h3 h4)
theorem rd_take {w : World} {A : Option Addr} {xs : List Value} (h : Rd w A xs) (m : Nat) : Rd w A (xs.take m) := by
 rcases h with rfl | ⟨b, o, rfl, hlt, hc⟩
 . exact .inl (by simp)
 . refine .inr ⟨b, o, rfl, hlt, fun k v hk => hc k v ?_⟩
   rw [List.getElem?_take] at hk
   split at hk
   . exact hk
   . cases hk
theorem own_blk1 {w : World} {g base : Nat} {e : TypeId} {s n : Nat} {cs : List Value} (h : Blk w g e cs) (hb : base <= g) (hl : cs.length = n * s) (hn : n <= maxLen) : w.ownsRow base e s (.slice (some ⟨g, 0, none⟩) n n) n cs :=
 ⟨hl, .inr ⟨g, n, _, rfl, hb, h, Nat.le_refl _, hn, by simpa using hl, by rw [<- hl]; simp⟩⟩
theorem blk_new {w : World} {t : TypeId} {cs : List Value} {g : Nat} (h : g = w.heap.size) : Blk (w.alloc (.cells cs.toArray t)) g t cs := by subst h; exact Blk.new w t cs
theorem blk_grown {w w' : World} {g : Nat} {t : TypeId} {cs : List Value} {row : Option Nat} (h : Blk w g t cs) (hb : w.grownBy w' row) (hg : some g ≠ row) : Blk w' g t cs := (hb.block g h.lt hg).trans h
theorem below1 (W : World) (o : Obj) : Below W.heap.size W (W.alloc o).drew := by
 have h := (Below.refl W.heap.size W).alloc (Nat.le_refl _) o
 exact ⟨h.os, h.tape, h.output, h.size, h.block⟩
theorem ints_one (l : List Int) : ∀ u ∈ ints l, u.oneCell' = true := by
 intro u hu
 simp only [ints, List.mem_map] at hu
 obtain ⟨x, _, rfl⟩ := hu
 rfl
class Cellful (α : Type) where
 cells : α -> List Value
 s : Nat
 dflt : α
 len : ∀ a, (cells a).length = s
 one : ∀ a, ∀ u ∈ cells a, u.oneCell' = true
section
variable {α : Type} [C : Cellful α]
def rows (l : List α) : List Value := l.flatMap C.cells
theorem rows_length (l : List α) : (rows l).length = l.length * C.s := by
 induction l with
 | nil => simp [rows]
 | cons a l ih =>
   simp only [rows, List.flatMap_cons, List.length_append, List.length_cons] at *
   rw [ih, C.len, Nat.succ_mul]; omega
theorem rows_cons (a : α) (l : List α) : rows (a :: l) = C.cells a ++ rows l := by simp [rows]
theorem rows_append (l r : List α) : rows (l ++ r) = rows l ++ rows r := by simp [rows]
theorem rows_one (l : List α) : ∀ u ∈ rows l, u.oneCell' = true := by
 intro u hu
 simp only [rows, List.mem_flatMap] at hu
 obtain ⟨a, _, h⟩ := hu
 exact C.one a u h
theorem rows_single (a : α) : rows [a] = C.cells a := by simp [rows]
theorem rows_at {l : List α} : ∀ {k : Nat}, k < l.length -> ∀ j, j < C.s -> (rows l)[k * C.s + j]? = (C.cells (l.getD k C.dflt))[j]? := by
 induction l with
 | nil => intro k h; simp at h
 | cons a l ih =>
   intro k h j hj
   rw [rows_cons]
   match k with
   | 0 => rw [List.getElem?_append_left (by rw [C.len]; omega)]; simp
   | k + 1 =>
     rw [List.getElem?_append_right (by rw [C.len, Nat.succ_mul]; omega)]
     have := ih (k := k) (by simpa using h) j hj
     rw [C.len, show (k + 1) * C.s + j - C.s = k * C.s + j by rw [Nat.succ_mul]; omega, this]
     simp
theorem rows_take (l : List α) (k : Nat) : (rows l).take (k * C.s) = rows (l.take k) := by
 rcases Nat.lt_or_ge k l.length with h | h
 . have e : rows l = rows (l.take k) ++ rows (l.drop k) := by rw [<- rows_append, List.take_append_drop]
   rw [e, List.take_left' (by rw [rows_length, List.length_take, Nat.min_eq_left (by omega)])]
 . rw [List.take_of_length_le (by rw [rows_length]; exact Nat.mul_le_mul_right _ h), List.take_of_length_le h]
theorem rows_drop (l : List α) (k : Nat) : (rows l).drop (k * C.s) = rows (l.drop k) := by
 rcases Nat.lt_or_ge k l.length with h | h
 . have e : rows l = rows (l.take k) ++ rows (l.drop k) := by rw [<- rows_append, List.take_append_drop]
   rw [e, List.drop_left' (by rw [rows_length, List.length_take, Nat.min_eq_left (by omega)])]
 . rw [List.drop_of_length_le (by rw [rows_length]; exact Nat.mul_le_mul_right _ h), List.drop_of_length_le h]; rfl
theorem rec_cell {w : World} {b o : Nat} {l : List α} (hc : ∀ k v, (rows l)[k]? = some v -> w.cell? ⟨b, o + k, none⟩ = some v) {k : Nat} (hk : k < l.length) {x : α} (hx : l.getD k C.dflt = x) :
  ∀ j v, (C.cells x)[j]? = some v -> w.cell? ⟨b, o + k * C.s + j, none⟩ = some v := by
 intro j v hj
 have hjs : j < C.s := by
  have := (List.getElem?_eq_some_iff.1 hj).1
  rwa [C.len] at this
 rw [Nat.add_assoc]
 exact hc _ v (by rw [rows_at hk j hjs, hx]; exact hj)
theorem rows_set {l : List α} : ∀ {k : Nat}, k < l.length -> ∀ (j : Nat) (v : Value) (y : α), j < C.s -> C.cells y = (C.cells (l.getD k C.dflt)).set j v -> (rows l).set (k * C.s + j) v = rows (l.set k y) := by
 induction l with
 | nil => intro k h; simp at h
 | cons a l ih =>
   intro k h j v y hj hy
   rw [rows_cons]
   match k with
   | 0 =>
     simp only [Nat.zero_mul, Nat.zero_add, List.set_cons_zero, rows_cons]
     rw [List.set_append_left _ _ (by rw [C.len]; exact hj)]
     simp at hy
     rw [hy]
   | k + 1 =>
     rw [List.set_append_right _ _ (by rw [C.len, Nat.succ_mul]; omega), C.len, show (k + 1) * C.s + j - C.s = k * C.s + j by rw [Nat.succ_mul]; omega, ih (k := k) (by simpa using h) j v y hj (by simpa using hy)]
     simp [rows_cons]
end
def AsksV {α : Type} (val : α -> Value) (w : World) (f : FuncId) (caps : Array Value) (p : α -> Bool) (l : List α) : Prop :=
 ∀ x, x ∈ l -> ∀ w', Below w.heap.size w w' -> Calls Tryz.prog f (#[val x] ++ caps) w' fun e w'' => e = .returned (.bool (p x)) /\ Below w'.heap.size w' w''
def firstV {α : Type} (p : α -> Bool) : List α -> Nat -> Int
 | [], _ => -1
 | x :: r, k => if p x then (k : Int) else firstV p r (k + 1)
theorem firstV_none {α : Type} {p : α -> Bool} : ∀ (l : List α) (k : Nat), (∀ x ∈ l, p x = false) -> firstV p l k = -1
 | [], _, _ => rfl
 | x :: r, k, h => by simp [firstV, h x (by simp), firstV_none r (k + 1) (fun y hy => h y (by simp [hy]))]
theorem firstV_lo {α : Type} {p : α -> Bool} : ∀ (l : List α) (k : Nat), -1 <= firstV p l k /\ (0 <= firstV p l k ↔ l.any p = true)
 | [], k => by simp [firstV]
 | x :: r, k => by
   have := firstV_lo (p := p) r (k + 1)
   simp only [firstV, List.any_cons]
   by_cases h : p x = true
   . simp [h]
   . simp only [Bool.not_eq_true] at h; simp [h, this]
theorem firstV_hit {α : Type} {p : α -> Bool} (d : α) : ∀ (l : List α) (k j : Nat) (_ : j < l.length), (∀ i, i < j -> p (l.getD i d) = false) -> p (l.getD j d) = true -> firstV p l k = (k + j : Nat)
 | x :: r, k, 0, _, _, hj => by simp at hj; simp [firstV, hj]
 | x :: r, k, j + 1, h, hi, hj => by
   have h0 := hi 0 (by omega)
   simp at h0
   simp [firstV, h0]
   rw [firstV_hit d r (k + 1) j (by simpa using h) (fun i hl => by simpa using hi (i + 1) (by omega)) (by simpa using hj)]
   simp; omega
theorem tkH {P : Program} {ops : Array Oper} {Q : Exit → Act → World → Prop} {md : Region.Mode} {S : World → Prop} (i : Nat) {oi : Oper} (v : Value) {f : Nat} {ls : Array Bool} {a : Act} {w : World} (hi : ops[i]? = some oi)
 (hy : YieldsIf P ops S oi v a) (hS : S w) (h : wpAnyH P md ops Q S f (ls.setIfInBounds i true) (a.put oi.dst v) w) (hs : Region.noSelect ops = true := by kernel_rfl) (hf : Region.free md ops ls i = true := by kernel_rfl) (hr : (Region.ready md ops ls).contains i = true := by kernel_rfl)
 (hQ : ∀ c a w, Q (.panic c) (a.put oi.dst v) w → Q (.panic c) a w := by exact fun _ _ _ h => h) : wpAnyH P md ops Q S (f + 1) ls a w := wpAnyH_take (i := i) (v := v) hi hs hf hr hQ hy hS h
theorem tkHp {P : Program} {ops : Array Oper} {Q : Exit → Act → World → Prop} {md : Region.Mode} {S : World → Prop} (i : Nat) {oi : Oper} (v : Value) {f : Nat} {ls : Array Bool} {a : Act} {w : World} (hi : ops[i]? = some oi)
 (hS : S w) (h : wpAnyH P md ops Q S f (ls.setIfInBounds i true) (a.put oi.dst v) w) (h1 : Region.wanted oi (yielded ops a.tmps) = true := by rfl) (h2 : ∀ w, S w → (execOp a.eval oi).run P w = .ok (.value v) w := by intro w hSw; go_simp) (hs : Region.noSelect ops = true := by kernel_rfl) (hf : Region.free md ops ls i = true := by kernel_rfl) (hr : (Region.ready md ops ls).contains i = true := by kernel_rfl)
 (hQ : ∀ c a w, Q (.panic c) (a.put oi.dst v) w → Q (.panic c) a w := by exact fun _ _ _ h => h) : wpAnyH P md ops Q S (f + 1) ls a w := wpAnyH_take (i := i) (v := v) hi hs hf hr hQ (.inl ⟨h1, h2⟩) hS h
end
structure Cse where
 (dir handle value : Int)
deriving DecidableEq
def Cse.cells (a : Cse) : List Value := [.int .i64 a.dir, .int .i64 a.handle, .int .i64 a.value]
def Cse.none : Cse := ⟨0, 0, 0⟩
abbrev cseV (a : Cse) : Value := .agg #[.int .i64 a.dir, .int .i64 a.handle, .int .i64 a.value]
instance : Cellful Cse where
 cells := Cse.cells
 s := 3
 dflt := Cse.none
 len := fun _ => rfl
 one := fun a u hu => by
  simp only [Cse.cells, List.mem_cons, List.not_mem_nil, or_false] at hu
  rcases hu with rfl | rfl | rfl <;> rfl
theorem cse_cells {w : World} {b o : Nat} {l : List Cse} (hc : ∀ k v, (rows l)[k]? = some v -> w.cell? ⟨b, o + k, none⟩ = some v) {k : Nat} (hk : k < l.length) {x : Cse} (hx : l.getD k Cse.none = x) :
  w.cell? ⟨b, o + k * 3, none⟩ = some (.int .i64 x.dir) /\ w.cell? ⟨b, o + k * 3 + 1, none⟩ = some (.int .i64 x.handle) /\ w.cell? ⟨b, o + k * 3 + 2, none⟩ = some (.int .i64 x.value) := by
 have h := rec_cell hc hk hx
 exact ⟨h 0 _ rfl, h 1 _ rfl, h 2 _ rfl⟩
structure Reqr where
 (kind arg value : Int)
 (dflt : Bool)
 (A : Option Addr)
 (n c : Nat)
abbrev reqV (q : Reqr) : Value := .agg #[.int .i64 q.kind, .int .i64 q.arg, .int .i64 q.value, .bool q.dflt, .slice q.A q.n q.c]
def Reqr.cells (q : Reqr) : List Value := [.int .i64 q.kind, .int .i64 q.arg, .int .i64 q.value, .bool q.dflt, .slice q.A q.n q.c]
structure ReqAt (w : World) (q : Reqr) (l : List Cse) : Prop where
 len : l.length = q.n
 rd : Rd w q.A (rows l)
theorem ReqAt.below {w w' : World} {q : Reqr} {l : List Cse} (h : ReqAt w q l) (hb : Below w.heap.size w w') : ReqAt w' q l := ⟨h.len, h.rd.below hb⟩
theorem reqBox {w : World} {g : Nat} {q : Reqr} (h : Blk w g 40 q.cells) :
  w.cell? ⟨g, 0, none⟩ = some (.int .i64 q.kind) /\ w.cell? ⟨g, 1, none⟩ = some (.int .i64 q.arg) /\ w.cell? ⟨g, 2, none⟩ = some (.int .i64 q.value) /\ w.cell? ⟨g, 3, none⟩ = some (.bool q.dflt) /\ w.cell? ⟨g, 4, none⟩ = some (.slice q.A q.n q.c) :=
 ⟨h.cell rfl, h.cell rfl, h.cell rfl, h.cell rfl, h.cell rfl⟩
structure Resr where
 (seq case_ code value : Int)
abbrev rsV (r : Resr) : Value := .agg #[.int .i64 r.seq, .int .i64 r.case_, .int .i64 r.code, .int .i64 r.value]
def Resr.cells (r : Resr) : List Value := [.int .i64 r.seq, .int .i64 r.case_, .int .i64 r.code, .int .i64 r.value]
theorem rsBox {w : World} {g : Nat} {r : Resr} (h : Blk w g 42 r.cells) :
  w.cell? ⟨g, 0, none⟩ = some (.int .i64 r.seq) /\ w.cell? ⟨g, 1, none⟩ = some (.int .i64 r.case_) /\ w.cell? ⟨g, 2, none⟩ = some (.int .i64 r.code) /\ w.cell? ⟨g, 3, none⟩ = some (.int .i64 r.value) :=
 ⟨h.cell rfl, h.cell rfl, h.cell rfl, h.cell rfl⟩
structure Chn where
 (gen cap : Int)
 (used closed : Bool)
 (A : Option Addr)
 (c : Nat)
 (buf : List Int)
def Chn.cells (a : Chn) : List Value := [.int .i64 a.gen, .int .i64 a.cap, .bool a.used, .bool a.closed, .slice a.A a.buf.length a.c]
def Chn.none : Chn := ⟨0, 0, false, false, .none, 0, []⟩
instance : Cellful Chn where
 cells := Chn.cells
 s := 5
 dflt := Chn.none
 len := fun _ => rfl
 one := fun a u hu => by
  simp only [Chn.cells, List.mem_cons, List.not_mem_nil, or_false] at hu
  rcases hu with rfl | rfl | rfl | rfl | rfl <;> rfl
theorem chn_cells {w : World} {b o : Nat} {l : List Chn} (hc : ∀ k v, (rows l)[k]? = some v -> w.cell? ⟨b, o + k, none⟩ = some v) {k : Nat} (hk : k < l.length) {x : Chn} (hx : l.getD k Chn.none = x) :
  w.cell? ⟨b, o + k * 5, none⟩ = some (.int .i64 x.gen) /\ w.cell? ⟨b, o + k * 5 + 1, none⟩ = some (.int .i64 x.cap) /\ w.cell? ⟨b, o + k * 5 + 2, none⟩ = some (.bool x.used) /\ w.cell? ⟨b, o + k * 5 + 3, none⟩ = some (.bool x.closed) /\ w.cell? ⟨b, o + k * 5 + 4, none⟩ = some (.slice x.A x.buf.length x.c) := by
 have h := rec_cell hc hk hx
 exact ⟨h 0 _ rfl, h 1 _ rfl, h 2 _ rfl, h 3 _ rfl, h 4 _ rfl⟩
abbrev chnV (a : Chn) : Value := .agg #[.int .i64 a.gen, .int .i64 a.cap, .bool a.used, .bool a.closed, .slice a.A a.buf.length a.c]
structure Wtr where
 (on : Bool)
 (ticket seq : Int)
 (A : Option Addr)
 (c : Nat)
 (cs : List Cse)
def Wtr.cells (a : Wtr) : List Value := [.bool a.on, .int .i64 a.ticket, .int .i64 a.seq, .slice a.A a.cs.length a.c]
def Wtr.none : Wtr := ⟨false, 0, 0, .none, 0, []⟩
instance : Cellful Wtr where
 cells := Wtr.cells
 s := 4
 dflt := Wtr.none
 len := fun _ => rfl
 one := fun a u hu => by
  simp only [Wtr.cells, List.mem_cons, List.not_mem_nil, or_false] at hu
  rcases hu with rfl | rfl | rfl | rfl <;> rfl
theorem wtr_cells {w : World} {b o : Nat} {l : List Wtr} (hc : ∀ k v, (rows l)[k]? = some v -> w.cell? ⟨b, o + k, none⟩ = some v) {k : Nat} (hk : k < l.length) {x : Wtr} (hx : l.getD k Wtr.none = x) :
  w.cell? ⟨b, o + k * 4, none⟩ = some (.bool x.on) /\ w.cell? ⟨b, o + k * 4 + 1, none⟩ = some (.int .i64 x.ticket) /\ w.cell? ⟨b, o + k * 4 + 2, none⟩ = some (.int .i64 x.seq) /\ w.cell? ⟨b, o + k * 4 + 3, none⟩ = some (.slice x.A x.cs.length x.c) := by
 have h := rec_cell hc hk hx
 exact ⟨h 0 _ rfl, h 1 _ rfl, h 2 _ rfl, h 3 _ rfl⟩
def Resr.none : Resr := ⟨0, 0, 0, 0⟩
instance : Cellful Resr where
 cells := Resr.cells
 s := 4
 dflt := Resr.none
 len := fun _ => rfl
 one := fun a u hu => by
  simp only [Resr.cells, List.mem_cons, List.not_mem_nil, or_false] at hu
  rcases hu with rfl | rfl | rfl | rfl <;> rfl
theorem rsr_cells {w : World} {b o : Nat} {l : List Resr} (hc : ∀ k v, (rows l)[k]? = some v -> w.cell? ⟨b, o + k, none⟩ = some v) {k : Nat} (hk : k < l.length) {x : Resr} (hx : l.getD k Resr.none = x) :
  w.cell? ⟨b, o + k * 4, none⟩ = some (.int .i64 x.seq) /\ w.cell? ⟨b, o + k * 4 + 1, none⟩ = some (.int .i64 x.case_) /\ w.cell? ⟨b, o + k * 4 + 2, none⟩ = some (.int .i64 x.code) /\ w.cell? ⟨b, o + k * 4 + 3, none⟩ = some (.int .i64 x.value) := by
 have h := rec_cell hc hk hx
 exact ⟨h 0 _ rfl, h 1 _ rfl, h 2 _ rfl, h 3 _ rfl⟩
structure ChP where
 (gen cap : Int)
 (used closed : Bool)
 (buf : List Int)
structure WtP where
 (on : Bool)
 (ticket seq : Int)
 (cs : List Cse)
def ChP.none : ChP := ⟨0, 0, false, false, []⟩
def WtP.none : WtP := ⟨false, 0, 0, []⟩
def Chn.p (x : Chn) : ChP := ⟨x.gen, x.cap, x.used, x.closed, x.buf⟩
def Wtr.p (x : Wtr) : WtP := ⟨x.on, x.ticket, x.seq, x.cs⟩
theorem wtr_map_getD (l : List Wtr) (k : Nat) : (l.map Wtr.p).getD k WtP.none = (l.getD k Wtr.none).p := by
 simp only [List.getD, List.getElem?_map]
 cases l[k]? <;> rfl
theorem chn_map_getD (l : List Chn) (k : Nat) : (l.map Chn.p).getD k ChP.none = (l.getD k Chn.none).p := by
 simp only [List.getD, List.getElem?_map]
 cases l[k]? <;> rfl
structure ReqP where
 (kind arg value : Int)
 (dflt : Bool)
 (cs : List Cse)
def inL (n : Nat) (t : Int) : Prop := 0 <= t /\ t < n
instance (n : Nat) (t : Int) : Decidable (inL n t) := by unfold inL; infer_instance
def putS (l : List WtP) (t : Int) (w : WtP) : List WtP × Bool :=
 if inL l.length t /\ (l.getD t.toNat WtP.none).on = false then (l.set t.toNat ⟨true, w.ticket, w.seq, w.cs⟩, true) else (l, false)
def cutS (l : List WtP) (t : Int) : List WtP × Bool :=
 if inL l.length t /\ (l.getD t.toNat WtP.none).on = true then (l.set t.toNat WtP.none, true) else (l, false)
def isC (dir handle : Int) (c : Cse) : Bool := c.dir == dir && c.handle == handle
def placeS (w : WtP) (dir handle : Int) : Int := if w.on = true then firstV (isC dir handle) w.cs 0 else -1
def isH (handle : Int) (c : Cse) : Bool := c.handle == handle
def firstK (l : List WtP) (dir handle : Int) : Nat -> Option (Nat × Int)
 | 0 => .none
 | k + 1 =>
   let i := placeS (l.getD k WtP.none) dir handle
   if i < 0 then firstK l dir handle k
   else match firstK l dir handle k with
    | .none => some (k, i)
    | some (t, j) => if (l.getD k WtP.none).ticket < (l.getD t WtP.none).ticket then some (k, i) else some (t, j)
def firstS (l : List WtP) (dir handle : Int) : Option (Nat × Int) := firstK l dir handle l.length
def trd (o : Option (Nat × Int)) : Int := match o with | .none => 0 | some (t, _) => t
def wch (o : Option (Nat × Int)) : Int := match o with | .none => 0 | some (_, i) => i
theorem firstK_lt (l : List WtP) (dir handle : Int) : ∀ (k : Nat) (t : Nat) (i : Int), firstK l dir handle k = some (t, i) -> t < k /\ 0 <= i /\ i = placeS (l.getD t WtP.none) dir handle
 | 0, t, i, h => by simp [firstK] at h
 | k + 1, t, i, h => by
   simp only [firstK] at h
   split at h
   . have := firstK_lt l dir handle k t i h; omega
   . rename_i hi
     cases hf : firstK l dir handle k with
     | none =>
       rw [hf] at h
       simp only [Option.some.injEq, Prod.mk.injEq] at h
       obtain ⟨rfl, rfl⟩ := h
       exact ⟨by omega, by omega, rfl⟩
     | some p =>
       obtain ⟨t', j⟩ := p
       rw [hf] at h
       simp only at h
       have h' := firstK_lt l dir handle k t' j hf
       split at h
       . simp only [Option.some.injEq, Prod.mk.injEq] at h
         obtain ⟨rfl, rfl⟩ := h
         exact ⟨by omega, by omega, rfl⟩
       . simp only [Option.some.injEq, Prod.mk.injEq] at h
         obtain ⟨rfl, rfl⟩ := h
         exact ⟨by omega, h'.2.1, h'.2.2⟩
def onB (handle : Int) (w : WtP) : Bool := w.on && w.cs.any (isH handle)
def onsS (l : List WtP) (handle : Int) : List Int := ((List.range l.length).filter fun t : Nat => onB handle (l.getD t WtP.none)).map fun t : Nat => (t : Int)
abbrev TldP := Int × Resr
def endedS (l : List WtP) (t : Int) (which code value : Int) : TldP := (t, ⟨(l.getD t.toNat WtP.none).seq, which, code, value⟩)
def readyS (c : ChP) (handle : Int) (l : List WtP) (dir : Int) : Bool :=
 c.used && (if dir = 1 then c.closed || (firstS l 2 handle).isSome || decide ((c.buf.length : Int) < c.cap)
  else if dir = 2 then c.closed || (firstS l 1 handle).isSome || decide (0 < c.buf.length) else false)
structure GotP where
 (c : ChP)
 (l : List WtP)
 (r : Resr)
 (told : List TldP)
def sendS (c : ChP) (handle : Int) (l : List WtP) (value : Int) : GotP :=
 match firstS l 2 handle with
 | some (t, i) => ⟨c, l.set t WtP.none, Resr.none, [endedS l t i 0 value]⟩
 | .none => ⟨⟨c.gen, c.cap, c.used, c.closed, c.buf ++ [value]⟩, l, Resr.none, []⟩
def caseV (l : List WtP) (t : Nat) (i : Int) : Int := ((l.getD t WtP.none).cs.getD i.toNat Cse.none).value
def recvS (c : ChP) (handle : Int) (l : List WtP) : GotP :=
 match firstS l 1 handle with
 | .none => ⟨⟨c.gen, c.cap, c.used, c.closed, c.buf.drop 1⟩, l, ⟨0, 0, 0, c.buf.getD 0 0⟩, []⟩
 | some (t, i) => ⟨⟨c.gen, c.cap, c.used, c.closed, (c.buf ++ [caseV l t i]).drop 1⟩, l.set t WtP.none, ⟨0, 0, 0, (c.buf ++ [caseV l t i]).getD 0 0⟩, [endedS l t i 0 0]⟩
def doS (c : ChP) (handle : Int) (l : List WtP) (dir value : Int) : GotP :=
 if readyS c handle l dir = false then ⟨c, l, ⟨0, 0, 10, 0⟩, []⟩
 else if dir = 1 /\ c.closed = false then sendS c handle l value
 else if dir = 2 /\ (0 < c.buf.length ∨ (firstS l 1 handle).isSome = true) then recvS c handle l
 else ⟨c, l, ⟨0, 0, 9, 0⟩, []⟩
def freeW (handle : Int) (w : WtP) : WtP := if onB handle w = true then WtP.none else w
def mayShut (c : ChP) : Bool := c.used && !c.closed
def idleS (c : ChP) (handle : Int) (l : List WtP) : Bool := c.used && c.closed && decide (c.buf.length = 0) && !(l.any (onB handle))
structure HallP where
 (ticket : Int)
 (chans : List ChP)
 (waits : List WtP)
 (done : List Resr)
def tellS (d : List Resr) : List TldP -> List Resr
 | [] => d
 | x :: r => tellS (if inL d.length x.1 then d.set x.1.toNat x.2 else d) r
theorem tellS_len : ∀ (l : List TldP) (d : List Resr), (tellS d l).length = d.length
 | [], _ => rfl
 | x :: r, d => by
   rw [tellS, tellS_len r]
   split <;> simp
def plcOk (h : Int) : Bool := decide (8 <= h) && decide (h < 32768)
def findB (l : List ChP) (h : Int) : Bool :=
 plcOk h && decide (h % 8 < (l.length : Int)) && (l.getD (h % 8).toNat ChP.none).used && ((l.getD (h % 8).toNat ChP.none).gen == h / 8)
def findP (h : Int) : Nat := (h % 8).toNat
def roomK (gens : Int) : List ChP -> Nat -> Option Nat
 | [], _ => .none
 | c :: r, k => if c.used = true then roomK gens r (k + 1) else if min gens 4095 <= c.gen then roomK gens r (k + 1) else some k
def spentB (gens : Int) (l : List ChP) : Bool := l.any fun c => !c.used && decide (min gens 4095 <= c.gen)
def rC (code : Int) : Resr := ⟨0, 0, code, 0⟩
def rV (v : Int) : Resr := ⟨0, 0, 0, v⟩
def handP (p g : Int) : Int := if p < 0 ∨ 7 < p ∨ g < 1 ∨ 4095 < g then 0 else 8 * g + p
def openS (gens cap : Int) (h : HallP) (capacity : Int) : HallP × Resr :=
 if capacity < 0 ∨ cap < capacity then (h, rC 1)
 else match roomK gens h.chans 0 with
  | some k => ({ h with chans := h.chans.set k ⟨(h.chans.getD k ChP.none).gen + 1, capacity, true, false, []⟩ }, rV (handP k ((h.chans.getD k ChP.none).gen + 1)))
  | .none => (h, rC (if spentB gens h.chans = true then 7 else 6))
def freeS (h : HallP) (handle : Int) : HallP × Resr :=
 if findB h.chans handle = false then (h, rC 8)
 else if idleS (h.chans.getD (findP handle) ChP.none) handle h.waits = false then (h, rC 13)
 else ({ h with chans := h.chans.set (findP handle) ⟨(h.chans.getD (findP handle) ChP.none).gen, 0, false, false, []⟩ }, rC 0)
def caseOk (k : Cse) : Bool := (k.dir == 1 || k.dir == 2) && decide (0 <= k.value) && decide (k.value <= 4294967295)
def casesS (l : List ChP) (cs : List Cse) : Int :=
 if cs.length = 0 ∨ 3 < cs.length then 1 else if cs.all caseOk = false then 1 else if (cs.all fun k => findB l k.handle) = false then 8 else 0
def pickK (h : HallP) : List Cse -> Nat -> Option (Nat × Cse)
 | [], _ => .none
 | k :: r, i => if readyS (h.chans.getD (findP k.handle) ChP.none) k.handle h.waits k.dir = true then some (i, k) else pickK h r (i + 1)
def oneS (h : HallP) (which : Nat) (k : Cse) : HallP × Resr :=
 let g := doS (h.chans.getD (findP k.handle) ChP.none) k.handle h.waits k.dir k.value
 (⟨h.ticket, h.chans.set (findP k.handle) g.c, g.l, tellS h.done g.told⟩, ⟨g.r.seq, which, g.r.code, g.r.value⟩)
def chooseS (h : HallP) (t seq : Int) (q : ReqP) : HallP × Resr :=
 if casesS h.chans q.cs ≠ 0 then (h, rC (casesS h.chans q.cs))
 else match pickK h q.cs 0 with
  | some (i, k) => oneS h i k
  | .none =>
    if q.dflt = true then (h, rC 10)
    else if 4294967295 <= h.ticket then (h, rC 7)
    else if (putS h.waits t ⟨true, h.ticket, seq, q.cs⟩).2 = false then (h, rC 13)
    else ({ h with waits := (putS h.waits t ⟨true, h.ticket, seq, q.cs⟩).1, ticket := h.ticket + 1 }, rC 14)
def shutDone (handle : Int) (l : List WtP) (d : List Resr) : List Resr :=
 d.mapIdx fun t r => if t < l.length /\ onB handle (l.getD t WtP.none) = true then (endedS l (t : Int) (firstV (isH handle) (l.getD t WtP.none).cs 0) 9 0).2 else r
def shutH (h : HallP) (handle : Int) : HallP × Resr :=
 if findB h.chans handle = false then (h, rC 8)
 else
  let c := h.chans.getD (findP handle) ChP.none
  if mayShut c = false then (h, rC 9)
  else (⟨h.ticket, h.chans.set (findP handle) ⟨c.gen, c.cap, c.used, true, c.buf⟩, h.waits.map (freeW handle), shutDone handle h.waits h.done⟩, rC 0)
def lookS (h : HallP) (q : ReqP) : Resr :=
 if findB h.chans q.arg = false then rC 8
 else if q.kind = 6 then rV (h.chans.getD (findP q.arg) ChP.none).cap
 else rV ((h.chans.getD (findP q.arg) ChP.none).buf.length : Int)
def cancelS (h : HallP) (own t n : Int) : HallP × Resr :=
 if inL h.waits.length t /\ t ≠ own /\ (h.waits.getD t.toNat WtP.none).on = true /\ (h.waits.getD t.toNat WtP.none).seq = n
 then ({ h with waits := h.waits.set t.toNat WtP.none, done := if inL h.done.length t then h.done.set t.toNat ⟨n, 0, 11, 0⟩ else h.done }, rC 0)
 else (h, rC 12)
def callH (gens cap : Int) (h : HallP) (t seq : Int) (q : ReqP) : HallP × Resr :=
 if q.kind = 1 then openS gens cap h q.arg
 else if q.kind = 2 then freeS h q.arg
 else if q.kind = 3 then chooseS h t seq q
 else if q.kind = 4 then shutH h q.arg
 else if q.kind = 5 ∨ q.kind = 6 then (h, lookS h q)
 else if q.kind = 7 then cancelS h t q.arg q.value
 else (h, rC 1)
def applyH (gens cap : Int) (h : HallP) (t seq : Int) (q : ReqP) : HallP :=
 let x := callH gens cap h t seq q
 { x.1 with done := if inL x.1.done.length t then x.1.done.set t.toNat ⟨seq, x.2.case_, x.2.code, x.2.value⟩ else x.1.done }
theorem firstV_rng {α : Type} {p : α -> Bool} : ∀ (l : List α) (k : Nat), firstV p l k < ((k + l.length : Nat) : Int)
 | [], k => by simp [firstV]; omega
 | x :: r, k => by
   simp only [firstV]
   split
   . simp; omega
   . have := firstV_rng (p := p) r (k + 1); simp at *; omega
def Enters (f : FuncId) : Prop := ∀ (args : Array Value) (w : World), Sem.run Tryz.prog (callFunc f args) w = .ok (.enter f args) w
theorem enters_of {f : FuncId} {fn : Func} (hf : Tryz.prog.funcs[f]? = some fn) (h1 : (fn.name == "runtime.NumGoroutine") = false) (h2 : fn.body.isNone = false) : Enters f := by
 intro args w
 simp only [beq_eq_false_iff_ne, ne_eq] at h1
 simp only [Option.isNone_eq_false_iff] at h2
 simp [callFunc, go_sem, hf, h1, Option.isSome_iff_ne_none.1 h2]
def Asks (w : World) (f : FuncId) (caps : Array Value) (p : Int -> Bool) (l : List Int) : Prop :=
 ∀ x, x ∈ l -> ∀ w', Below w.heap.size w w' -> Calls Tryz.prog f (#[.int .i64 x] ++ caps) w' fun e w'' => e = .returned (.bool (p x)) /\ Below w'.heap.size w' w''
def firstAt (p : Int -> Bool) : List Int -> Nat -> Int
 | [], _ => -1
 | x :: r, k => if p x then (k : Int) else firstAt p r (k + 1)
theorem firstAt_none {p : Int -> Bool} : ∀ (l : List Int) (k : Nat), (∀ x ∈ l, p x = false) -> firstAt p l k = -1
 | [], _, _ => rfl
 | x :: r, k, h => by simp [firstAt, h x (by simp), firstAt_none r (k + 1) (fun y hy => h y (by simp [hy]))]
theorem firstAt_lo {p : Int -> Bool} : ∀ (l : List Int) (k : Nat), -1 <= firstAt p l k /\ (0 <= firstAt p l k ↔ l.any p = true)
 | [], k => by simp [firstAt]
 | x :: r, k => by
   have := firstAt_lo (p := p) r (k + 1)
   simp only [firstAt, List.any_cons]
   by_cases h : p x = true
   . simp [h]
   . simp only [Bool.not_eq_true] at h; simp [h, this]
theorem firstAt_hit {p : Int -> Bool} : ∀ (l : List Int) (k j : Nat) (_ : j < l.length), (∀ i, i < j -> p (l.getD i 0) = false) -> p (l.getD j 0) = true -> firstAt p l k = (k + j : Nat)
 | x :: r, k, 0, _, _, hj => by simp at hj; simp [firstAt, hj]
 | x :: r, k, j + 1, h, hi, hj => by
   have h0 := hi 0 (by omega)
   simp at h0
   simp [firstAt, h0]
   rw [firstAt_hit r (k + 1) j (by simpa using h) (fun i hl => by simpa using hi (i + 1) (by omega)) (by simpa using hj)]
   simp; omega
theorem IndexFunc_any (A : Option Addr) (c : Nat) (l : List Int) (f : FuncId) (caps : Array Value) (p : Int -> Bool) (w : World) (hl : l.length <= maxLen)
  (hR : Rd w A (ints l)) (hf : Enters f) (hp : Asks w f caps p l) :
  Calls Tryz.prog 97 #[.slice A l.length c, .func (.func f) #[] caps] w fun e w' => e = .returned (.int .i64 (firstAt p l 0)) /\ Below w.heap.size w w' := by
 unfold maxLen at hl
 have HR := Zd hR
 have HP := Zd hp
 clear hR hp
 generalize hn : l.length = n at hl ⊢
 have HN := Zd hn
 clear hn
 go_enter Tryz.func97, Tryz.ntmps97
 go_wp2
 go_loopw [8] (fun i wr => ∃ k : Nat, k <= n /\ i = .int .i64 k /\ Below w.heap.size w wr /\ ∀ j, j < k -> p (l.getD j 0) = false) (fun i _ => n - (intOf i).toNat)
 case atStart => exact ⟨0, Nat.zero_le _, rfl, Below.refl _ _, fun j hj => absurd hj (by omega)⟩
 case round =>
  obtain ⟨k, hk, rfl, hb, hno⟩ := hrel
  have HNO := Zd hno
  clear hno
  by_cases hlt : k < n
  . have hkl : k < l.length := by rw [HN.out]; exact hlt
    obtain ⟨b, o, rfl, hbl, hc⟩ := HR.out.at_ (by rw [ints_length]; omega)
    have hcell : wr.cell? ⟨b, o + k, none⟩ = some (.int .i64 (l.getD k 0)) := by
     rw [hb.cell (p := ⟨b, o + k, none⟩) hbl]; exact hc k _ (ints_at hkl)
    have HC := Zd hc
    clear hc
    have hmem : l.getD k 0 ∈ l := by simp [hkl]
    generalize hx : l.getD k 0 = x at hcell hmem
    have HX := Zd hx
    clear hx hkl
    have hcall := HP.out x hmem wr hb
    have HCALL := Zd hcall
    clear hcall hmem
    have hrun := hf (#[.int .i64 x] ++ caps) wr
    by_cases hpx : p x = true
    . go_wp2_with (first | (refine HCALL.out.mono ?_; rintro e w1 ⟨rfl, hb1⟩))
      go_ret
      exact ⟨ret_int (by rw [firstAt_hit l 0 k (by rw [HN.out]; exact hlt) HNO.out (by rw [HX.out]; exact hpx)]; simp), hb.trans (hb1.mono hb.size)⟩
    . simp only [Bool.not_eq_true] at hpx
      go_wp2_with (first | (refine HCALL.out.mono ?_; rintro e w1 ⟨rfl, hb1⟩))
      go_roundw
      case rel =>
       refine ⟨k + 1, by omega, by go_num, hb.trans (hb1.mono hb.size), fun j hj => ?_⟩
       by_cases hjk : j = k
       . subst hjk; rw [HX.out]; exact hpx
       . exact HNO.out j (by omega)
      case measure => simp [intOf]; omega
  . go_wp2
    go_ret
    refine ⟨ret_int ?_, hb⟩
    rw [firstAt_none l 0 (fun x hx => ?_)]
    obtain ⟨j, hj, rfl⟩ := List.getElem_of_mem hx
    have := HNO.out j (by have := HN.out; omega)
    simpa [List.getD, hj] using this
theorem ContainsFunc_any (A : Option Addr) (c : Nat) (l : List Int) (f : FuncId) (caps : Array Value) (p : Int -> Bool) (w : World) (hl : l.length <= maxLen)
  (hR : Rd w A (ints l)) (hf : Enters f) (hp : Asks w f caps p l) :
  Calls Tryz.prog 85 #[.slice A l.length c, .func (.func f) #[] caps] w fun e w' => e = .returned (.bool (l.any p)) /\ Below w.heap.size w w' := by
 have HI := Zd (IndexFunc_any A c l f caps p w hl hR hf hp)
 have hlo := firstAt_lo (p := p) l 0
 have HL := Zd hlo
 clear hR hp hf hl hlo
 by_cases h : 0 <= firstAt p l 0
 all_goals
  go_enter Tryz.func85, Tryz.ntmps85
  go_wp2_with (first | (refine HI.out.mono ?_; rintro e w1 ⟨rfl, hb1⟩))
  go_ret
  refine ⟨ret_bool ?_, hb1⟩
  have e := HL.out.2
  first | exact (e.1 h).symm | (rw [Bool.eq_iff_iff, decide_eq_true_iff]; exact e) | (rw [eq_comm, Bool.eq_false_iff]; exact fun h' => h (e.2 h'))
structure Cfg where
 (kind threads chans cap nodes retire patience tags seqs gens : Int)
 (start : List Int)
 (sa : Option Addr)
 (sc : Nat)
abbrev cfgV (c : Cfg) : Value := .agg #[.int .i64 c.kind, .int .i64 c.threads, .int .i64 c.chans, .int .i64 c.cap, .int .i64 c.nodes, .int .i64 c.retire, .int .i64 c.patience, .int .i64 c.tags, .int .i64 c.seqs, .int .i64 c.gens, .slice c.sa c.start.length c.sc]
def CfgIn (w : World) (c : Cfg) : Prop := Rd w c.sa (ints c.start) /\ c.start.length <= maxLen
theorem CfgIn.below {w w' : World} {c : Cfg} (h : CfgIn w c) (hb : Below w.heap.size w w') : CfgIn w' c := ⟨h.1.below hb, h.2⟩
theorem CfgIn.alloc {w : World} {c : Cfg} (h : CfgIn w c) (o : Obj) : CfgIn (w.alloc o) c := ⟨h.1.alloc o, h.2⟩
def inB (n a b : Int) : Bool := decide (a <= n) && decide (n <= b)
def ownB (c : Cfg) : Bool :=
 if c.kind == 1 || c.kind == 2 then inB c.cap 1 16 && c.chans == 0 && c.gens == 0 && (c.start.length : Int) == 0
 else if c.kind == 3 then inB c.chans 1 8 && inB c.cap 0 8 && inB c.gens 1 4095 && decide ((c.start.length : Int) <= c.chans) && !(c.start.any fun n => !inB n 0 c.cap)
 else false
def chkB (c : Cfg) : Bool :=
 inB c.threads 1 64 && inB c.nodes 1 64 && inB c.retire 1 32 && inB c.patience 0 4 && inB c.tags 1 4294967295 && inB c.seqs 1 1048575 && ownB c
def chkE (c : Cfg) : Int := if chkB c = true then 0 else 1
theorem in_any (n a b : Int) (w : World) :
  Calls Tryz.prog 48 #[.int .i64 n, .int .i64 a, .int .i64 b] w fun e w' => e = .returned (.bool (inB n a b)) /\ w = w' := by
 unfold inB
 by_cases h1 : a <= n <;> by_cases h2 : n <= b
 all_goals
  go_enter Tryz.func48, Tryz.ntmps48
  go_wp2
  go_ret
  exact ⟨by simp [h1, h2], rfl⟩
theorem own1_any (n m : Int) (b : Nat) (w : World) (hc : w.cell? ⟨b, 3, none⟩ = some (.int .i64 m)) :
  Calls Tryz.prog 86 #[.int .i64 n, .pointer (some ⟨b, 0, none⟩)] w fun e w' => e = .returned (.bool (!inB n 0 m)) /\ Below w.heap.size w w' := by
 go_enter Tryz.func86, Tryz.ntmps86
 go_wp2_with (go_at_call 48; refine (in_any _ _ _ _).mono ?_; rintro e w' ⟨rfl, rfl⟩)
 go_ret
 exact ⟨rfl, Below.refl _ _⟩
theorem own1_enters : Enters 86 := enters_of Tryz.func86 (by kernel_rfl) (by kernel_rfl)
theorem own1_asks (m : Int) (b : Nat) (w : World) (l : List Int) (hlt : b < w.heap.size) (hc : w.cell? ⟨b, 3, none⟩ = some (.int .i64 m)) :
  Asks w 86 #[.pointer (some ⟨b, 0, none⟩)] (fun n => !inB n 0 m) l := by
 intro x _ w' hb'
 refine own1_any x m _ _ ?_
 rw [hb'.cell (p := ⟨b, 3, none⟩) hlt]
 exact hc
theorem own_any (c : Cfg) (w : World) (hcf : CfgIn w c) :
  Calls Tryz.prog 49 #[cfgV c] w fun e w' => e = .returned (.bool (ownB c)) /\ Below w.heap.size w w' := by
 have HC := Zd hcf
 clear hcf
 unfold cfgV
 by_cases k1 : c.kind = 1
 . have e1 : (c.kind == 1) = true := by simp [k1]
   have HK := Zd k1
   clear k1
   go_enter Tryz.func49, Tryz.ntmps49
   go_wp2_with (go_at_call 48; refine (in_any _ _ _ _).mono ?_; rintro e w' ⟨rfl, rfl⟩)
   all_goals
    go_ret
    refine ⟨ret_bool ?_, (Below.refl _ _).alloc (Nat.le_refl _) _⟩
    simp [ownB, HK.out, *]
 by_cases k2 : c.kind = 2
 . have e1 : (c.kind == 1) = false := by simp [k2]
   have e2 : (c.kind == 2) = true := by simp [k2]
   have HK := Zd k2
   clear k2
   go_enter Tryz.func49, Tryz.ntmps49
   go_wp2_with (go_at_call 48; refine (in_any _ _ _ _).mono ?_; rintro e w' ⟨rfl, rfl⟩)
   all_goals
    go_ret
    refine ⟨ret_bool ?_, (Below.refl _ _).alloc (Nat.le_refl _) _⟩
    simp [ownB, HK.out, *]
 by_cases k3 : c.kind = 3
 . have e1 : (c.kind == 1) = false := by simp [k1]
   have e2 : (c.kind == 2) = false := by simp [k2]
   have e3 : (c.kind == 3) = true := by simp [k3]
   have HK := Zd k3
   clear k1 k2 k3
   go_enter Tryz.func49, Tryz.ntmps49
   go_wp2_with (first
    | (go_at_call 48; refine (in_any _ _ _ _).mono ?_; rintro e w' ⟨rfl, rfl⟩)
    | (go_at_call 85
       refine (ContainsFunc_any c.sa c.sc c.start 86 #[.pointer (some ⟨w.heap.size, 0, none⟩)] (fun n => !inB n 0 c.cap) _ HC.out.2 (HC.out.1.alloc _) own1_enters (own1_asks _ _ _ _ (by simp) (by simp))).mono ?_
       rintro e w1 ⟨rfl, hb1⟩))
   all_goals
    go_ret
    refine ⟨ret_bool ?_, ?_⟩
    . first | (simp [ownB, HK.out, *]; done) | (simp [ownB, HK.out, *]; intros; omega)
    . first | exact (Below.refl _ _).alloc (Nat.le_refl _) _ | exact ((Below.refl _ _).alloc (Nat.le_refl _) _).trans (hb1.mono (by simp))
 . have e1 : (c.kind == 1) = false := by simp [k1]
   have e2 : (c.kind == 2) = false := by simp [k2]
   have e3 : (c.kind == 3) = false := by simp [k3]
   have HK := Zd (And.intro k1 (And.intro k2 k3))
   clear k1 k2 k3
   go_enter Tryz.func49, Tryz.ntmps49
   go_wp2
   go_ret
   refine ⟨ret_bool ?_, (Below.refl _ _).alloc (Nat.le_refl _) _⟩
   simp [ownB, HK.out.1, HK.out.2.1, HK.out.2.2]
theorem Check_any (c : Cfg) (w : World) (hcf : CfgIn w c) :
  Calls Tryz.prog 20 #[cfgV c] w fun e w' => e = .returned (.int .i64 (chkE c)) /\ Below w.heap.size w w' := by
 have HC := Zd hcf
 clear hcf
 unfold cfgV
 by_cases ho : ownB c = true
 all_goals
  go_enter Tryz.func20, Tryz.ntmps20
  go_wp2_with (first
   | (go_at_call 48; refine (in_any _ _ _ _).mono ?_; rintro e w' ⟨rfl, rfl⟩)
   | (go_at_call 49; refine (own_any c _ (HC.out.alloc _)).mono ?_; rintro e w1 ⟨rfl, hb1⟩))
  all_goals
   go_ret
   refine ⟨ret_int ?_, ?_⟩
   . simp [chkE, chkB, *]
   . first | exact (Below.refl _ _).alloc (Nat.le_refl _) _ | exact ((Below.refl _ _).alloc (Nat.le_refl _) _).trans (hb1.mono (by simp))
def cfgCells (c : Cfg) : List Value := [.int .i64 c.kind, .int .i64 c.threads, .int .i64 c.chans, .int .i64 c.cap, .int .i64 c.nodes, .int .i64 c.retire, .int .i64 c.patience, .int .i64 c.tags, .int .i64 c.seqs, .int .i64 c.gens, .slice c.sa c.start.length c.sc]
def BoxC (w : World) (b : Nat) (c : Cfg) : Prop := b < w.heap.size /\ ∀ i v, (cfgCells c)[i]? = some v -> w.cell? ⟨b, i, none⟩ = some v
theorem BoxC.below {w w' : World} {b : Nat} {c : Cfg} (h : BoxC w b c) (hb : Below w.heap.size w w') : BoxC w' b c :=
 ⟨Nat.lt_of_lt_of_le h.1 hb.size, fun i v hi => (hb.cell (p := ⟨b, i, none⟩) h.1).trans (h.2 i v hi)⟩
theorem BoxC.new (w : World) (c : Cfg) : BoxC (w.alloc (.cells #[.int .i64 c.kind, .int .i64 c.threads, .int .i64 c.chans, .int .i64 c.cap, .int .i64 c.nodes, .int .i64 c.retire, .int .i64 c.patience, .int .i64 c.tags, .int .i64 c.seqs, .int .i64 c.gens, .slice c.sa c.start.length c.sc] 24)) w.heap.size c := by
 refine ⟨by simp, fun i v hi => ?_⟩
 simp only [cfgCells] at hi
 rw [World.cell?_alloc_at (hn := rfl)]
 rw [<- hi]
 simp
theorem BoxC.all {w : World} {b : Nat} {c : Cfg} (h : BoxC w b c) :
  (w.cell? ⟨b, 0, none⟩ = some (.int .i64 c.kind) /\ w.cell? ⟨b, 1, none⟩ = some (.int .i64 c.threads) /\ w.cell? ⟨b, 2, none⟩ = some (.int .i64 c.chans) /\ w.cell? ⟨b, 3, none⟩ = some (.int .i64 c.cap) /\
   w.cell? ⟨b, 4, none⟩ = some (.int .i64 c.nodes) /\ w.cell? ⟨b, 5, none⟩ = some (.int .i64 c.retire) /\ w.cell? ⟨b, 6, none⟩ = some (.int .i64 c.patience) /\ w.cell? ⟨b, 7, none⟩ = some (.int .i64 c.tags) /\
   w.cell? ⟨b, 8, none⟩ = some (.int .i64 c.seqs) /\ w.cell? ⟨b, 9, none⟩ = some (.int .i64 c.gens) /\ w.cell? ⟨b, 10, none⟩ = some (.slice c.sa c.start.length c.sc)) :=
 ⟨h.2 0 _ rfl, h.2 1 _ rfl, h.2 2 _ rfl, h.2 3 _ rfl, h.2 4 _ rfl, h.2 5 _ rfl, h.2 6 _ rfl, h.2 7 _ rfl, h.2 8 _ rfl, h.2 9 _ rfl, h.2 10 _ rfl⟩
theorem chk_kind {c : Cfg} (h : chkB c = true) : 1 <= c.threads /\ c.threads <= 64 /\ 1 <= c.retire /\ c.retire <= 32 /\ 0 <= c.patience /\ c.patience <= 4 /\ 0 <= c.cap /\ c.cap <= 16 /\ 0 <= c.chans /\ c.chans <= 8 /\ (c.kind = 3 ∨ (c.kind = 1 ∨ c.kind = 2) /\ 1 <= c.cap) := by
 simp only [chkB, ownB, inB, Bool.and_eq_true, decide_eq_true_eq] at h
 grind
theorem chkE_ok {c : Cfg} (h : chkB c = true) : chkE c = 0 := by simp [chkE, h]
theorem chkE_no {c : Cfg} (h : chkB c = false) : chkE c = 1 := by simp [chkE, h]
theorem Check_ok (c : Cfg) (w : World) (hcf : CfgIn w c) (h : chkB c = true) :
  Calls Tryz.prog 20 #[cfgV c] w fun e w' => e = .returned (.int .i64 0) /\ Below w.heap.size w w' := by
 rw [<- chkE_ok h]; exact Check_any c w hcf
theorem Check_no (c : Cfg) (w : World) (hcf : CfgIn w c) (h : chkB c = false) :
  Calls Tryz.prog 20 #[cfgV c] w fun e w' => e = .returned (.int .i64 1) /\ Below w.heap.size w w' := by
 rw [<- chkE_no h]; exact Check_any c w hcf
theorem prod_b (a b m n : Int) (h1 : 0 <= a) (h2 : a <= m) (h3 : 0 <= b) (h4 : b <= n) : 0 <= a * b /\ a * b <= m * n :=
 ⟨Int.mul_nonneg h1 h3, Int.mul_le_mul h2 h4 h3 (by omega)⟩
def stateS (c : Cfg) : Int := if chkB c = true then (if c.kind == 3 then 1 + c.chans * (1 + c.cap) + c.threads * 4 else 1 + c.cap) else 0
def sizeS (c : Cfg) : Int := if chkB c = true then stateS c + c.threads else 0
theorem State_any (c : Cfg) (w : World) (hcf : CfgIn w c) :
  Calls Tryz.prog 129 #[cfgV c] w fun e w' => e = .returned (.int .i64 (stateS c)) /\ Below w.heap.size w w' := by
 have HC := Zd hcf
 clear hcf
 unfold cfgV
 cases hk : chkB c
 . have HK := Zd hk
   clear hk
   go_enter Tryz.func129, Tryz.ntmps129
   go_wp2_with (go_at_call 20; refine (Check_no c _ (HC.out.alloc _) HK.out).mono ?_; rintro e w1 ⟨rfl, hb1⟩)
   go_ret
   exact ⟨ret_int (by simp [stateS, HK.out]), ((Below.refl _ _).alloc (Nat.le_refl _) _).trans (hb1.mono (by simp))⟩
 . have HK := Zd hk
   obtain ⟨g1, g2, g3, g4, g5, g6, g7, g8, g9, g10, g11⟩ := chk_kind hk
   clear hk
   have HG := Zd g11
   clear g11
   have hp := prod_b c.chans (1 + c.cap) 8 17 (by omega) (by omega) (by omega) (by omega)
   obtain ⟨p1, p2⟩ := hp
   cases h3 : c.kind == 3
   all_goals
    go_enter Tryz.func129, Tryz.ntmps129
    go_wp2_with (go_at_call 20; refine (Check_ok c _ (HC.out.alloc _) HK.out).mono ?_; rintro e w1 ⟨rfl, hb1⟩; obtain ⟨c0, c1, c2, c3, c4, c5, c6, c7, c8, c9, c10⟩ := ((BoxC.new w c).below hb1).all)
    go_ret
    exact ⟨ret_int (by simp [stateS, HK.out, h3]), ((Below.refl _ _).alloc (Nat.le_refl _) _).trans (hb1.mono (by simp))⟩
theorem state_b {c : Cfg} (h : chkB c = true) : 0 <= stateS c /\ stateS c <= 1000 := by
 obtain ⟨g1, g2, g3, g4, g5, g6, g7, g8, g9, g10, g11⟩ := chk_kind h
 have hp := prod_b c.chans (1 + c.cap) 8 17 (by omega) (by omega) (by omega) (by omega)
 simp only [stateS, h, if_true]
 split <;> omega
theorem alloc_size (w : World) (o : Obj) : w.heap.size <= (w.alloc o).heap.size := by simp
theorem Size_any (c : Cfg) (w : World) (hcf : CfgIn w c) :
  Calls Tryz.prog 133 #[cfgV c] w fun e w' => e = .returned (.int .i64 (sizeS c)) /\ Below w.heap.size w w' := by
 have HC := Zd hcf
 clear hcf
 unfold cfgV
 cases hk : chkB c
 . have HK := Zd hk
   clear hk
   go_enter Tryz.func133, Tryz.ntmps133
   go_wp2_with (go_at_call 20; refine (Check_no c _ (HC.out.alloc _) HK.out).mono ?_; rintro e w1 ⟨rfl, hb1⟩)
   go_ret
   exact ⟨ret_int (by simp [sizeS, HK.out]), ((Below.refl _ _).alloc (Nat.le_refl _) _).trans (hb1.mono (by simp))⟩
 . have HK := Zd hk
   obtain ⟨g1, g2, g3, g4, g5, g6, g7, g8, g9, g10, g11⟩ := chk_kind hk
   obtain ⟨s1, s2⟩ := state_b hk
   clear hk
   have HG := Zd g11
   clear g11
   go_enter Tryz.func133, Tryz.ntmps133
   go_wp2_with (first
    | (go_at_call 20; refine (Check_ok c _ (HC.out.alloc _) HK.out).mono ?_; rintro e w1 ⟨rfl, hb1⟩; obtain ⟨c0, c1, c2, c3, c4, c5, c6, c7, c8, c9, c10⟩ := ((BoxC.new w c).below hb1).all; have HB := Zd (((Below.refl _ _).alloc (Nat.le_refl _) _).trans (hb1.mono (alloc_size _ _))); have HCW := Zd (HC.out.below HB.out); clear hb1))
   have k0 := cell_regrown c0
   have k1 := cell_regrown c1
   have k2 := cell_regrown c2
   have k3 := cell_regrown c3
   have k4 := cell_regrown c4
   have k5 := cell_regrown c5
   have k6 := cell_regrown c6
   have k7 := cell_regrown c7
   have k8 := cell_regrown c8
   have k9 := cell_regrown c9
   have k10 := cell_regrown c10
   clear c0 c1 c2 c3 c4 c5 c6 c7 c8 c9 c10
   refine wp_region_quiet_below (by kernel_rfl) (by kernel_rfl) ?_
   repeat (quiet_step ((first | (go_at_call 129; exact Calls.regrown_of (State_any c _ (HCW.out.below (below_regrown _ _ _)))))))
   refine wpQuiet_nil ?_
   intro _ hw'
   obtain ⟨⟨dq, osq⟩, hw''⟩ := hw'
   subst hw''
   go_wp2
   go_ret
   refine ⟨ret_int ?_, HB.out.trans ((below_regrown w1 dq osq).mono HB.out.size)⟩
   simp (disch := omega) only [IntWalk.i64_in]
   simp [sizeS, HK.out]
end Go.Proofs.YtieglgahfeecbaaGreatDoor
