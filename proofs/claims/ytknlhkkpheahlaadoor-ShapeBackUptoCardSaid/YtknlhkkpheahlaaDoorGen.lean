/- What every walk of this seat uses: rows of the call's own, append onto them as a step of a region that draws its order; rows of records. -/
import Derived.Test.YtknlhkkpheahlaaDoorAppend
import Derived.Laws.OwnMore
import Derived.Deep.RegionLaw
import Derived.Deep.RegionHeld3
import Derived.Deep.DrawnRows
import Derived.Deep.LoopGhost
import Derived.Deep.DeepCutAuto
namespace Go.Proofs.YtknlhkkpheahlaaDoor
open Go.RowKit Go.Sort

/-- Handed back: a row in new memory that the caller owns. -/
def RetOwn (E : TypeId) (s n : Nat) (xs : List Value) (w : World) (e : Ending) (w' : World) : Prop :=
  ∃ A c, e = .returned (.slice A n c) ∧ w'.ownsRow w.heap.size E s (.slice A n c) n xs ∧ Below w.heap.size w w'

theorem rd_add {w : World} {ad : Addr} {xs : List Value} (h : Rd w (some ad) xs) : ∀ j u, xs[j]? = some u → w.cell? (ad.add j) = some u := by
  intro j u hj
  rcases h with rfl | ⟨b, o, he, _, hc⟩
  · simp at hj
  · injection he with he
    subst he
    have e1 : (Addr.add ⟨b, o, none⟩ j) = ⟨b, o + j, none⟩ := by
      unfold Addr.add; split
      · simp_all
      · rfl
    rw [e1]; exact hc j u hj

theorem own_empty (w : World) (E : TypeId) (s : Nat) : (w.alloc (.cells #[] E)).ownsRow w.heap.size E s (.slice (some ⟨w.heap.size, 0, none⟩) 0 0) 0 [] :=
  ⟨by simp, .inr ⟨w.heap.size, 0, #[], rfl, Nat.le_refl _, heap_alloc_new w _, Nat.le_refl _, by unfold maxLen; omega, by simp, by simp⟩⟩

theorem own_slice {w : World} {base : Nat} {e : TypeId} {s n : Nat} {v : Value} {xs : List Value} (h : w.ownsRow base e s v n xs) : ∃ A c, v = .slice A n c := by
  rcases h.2 with ⟨rfl, rfl⟩ | ⟨g, cap, cur, rfl, _⟩
  · exact ⟨_, _, rfl⟩
  · exact ⟨_, _, rfl⟩

theorem own_le {w : World} {base : Nat} {e : TypeId} {s n : Nat} {A : Option Addr} {c : Nat} {xs : List Value} (h : w.ownsRow base e s (.slice A n c) n xs) : n ≤ c := by
  rcases h.2 with ⟨hv, rfl⟩ | ⟨g, cap, cur, hv, _, _, hnc, _⟩
  · exact Nat.zero_le _
  · injection hv with _ _ hc
    omega

theorem own_some {w : World} {base : Nat} {e : TypeId} {s n : Nat} {A : Option Addr} {c : Nat} {xs : List Value} (h : w.ownsRow base e s (.slice A n c) n xs) (hn : 0 < n) : ∃ g, A = some ⟨g, 0, none⟩ ∧ base ≤ g ∧ g < w.heap.size := by
  rcases h.2 with ⟨hv, rfl⟩ | ⟨g, cap, cur, hv, hb, hh, hnc, _⟩
  · omega
  · injection hv with hA _ _
    refine ⟨g, hA, hb, ?_⟩
    rcases Nat.lt_or_ge g w.heap.size with hlt | hge
    · exact hlt
    · rw [Array.getElem?_eq_none hge] at hh; cases hh

theorem own_none {w : World} {base : Nat} {e : TypeId} {s n : Nat} {A : Option Addr} {c : Nat} {xs : List Value} (h : w.ownsRow base e s (.slice A n c) n xs) (hA : A = none) : n = 0 ∧ c = 0 ∧ xs = [] := by
  have hl := h.1
  rcases h.2 with ⟨hv, rfl⟩ | ⟨g, cap, cur, hv, _⟩
  · injection hv with _ _ hc
    exact ⟨rfl, hc, List.eq_nil_of_length_eq_zero (by rw [hl]; simp)⟩
  · injection hv with hA' _ _
    rw [hA] at hA'; cases hA'

theorem own_lower {w : World} {base b : Nat} {e : TypeId} {s n : Nat} {v : Value} {xs : List Value} (h : w.ownsRow base e s v n xs) (hb : b ≤ base) : w.ownsRow b e s v n xs := by
  refine ⟨h.1, ?_⟩
  rcases h.2 with h2 | ⟨g, cap, cur, hv, hg, r⟩
  · exact .inl h2
  · exact .inr ⟨g, cap, cur, hv, by omega, r⟩

theorem grown_refl (w : World) (r : Option Nat) : w.grownBy w r := ⟨rfl, rfl, rfl, Nat.le_refl _, fun _ _ _ => rfl⟩

theorem wp_app {o : Oper} {a : Act} {w : World} {K : Act → World → Prop} {Q : Exit → Act → World → Prop} (s x : Operand) (t e : TypeId)
    (ho : o.op = .call { callee := .builtin .append, args := #[s, x], argTypes := #[t, t] })
    (base : Nat) (z : Value) (size bytes : Nat) (ht : Tryd.prog.underlying t = some (.slice e)) (hinfo : (Tryd.prog.info? e).map (fun i => (i.zero, i.size, i.bytes)) = some (some z, size, bytes)) (hzs : z.cells.size = size) (hsz : 0 < size)
    (A : Option Addr) (n c : Nat) (xs : List Value) (hs : a.eval s = .slice A n c) (hown : w.ownsRow base e size (.slice A n c) n xs)
    (B : Option Addr) (m d : Nat) (news : List Value) (hx : a.eval x = .slice B m d) (hd : B = none → m = 0 ∧ d = 0) (hl : news.length = m * size) (hR : Rd w B news) (h1 : ∀ u ∈ news, u.oneCell' = true)
    (N : Nat) (hN : n + m = N) (ys : List Value) (hys : xs ++ news = ys) (h63 : N ≤ maxLen) (hbytes : N * bytes ≤ 140737488355328) (hbase : base ≤ w.heap.size)
    (h : ∀ A' c' w', w'.ownsRow base e size (.slice A' N c') N ys → w.grownBy w' (Value.ownBlock (.slice A n c)) → Below base w w' → K (a.put o.dst (.slice A' N c')) w') : o.wp Tryd.prog a w K Q := by
  subst hN hys
  obtain ⟨i0, hi, hz0, hz1, hz2⟩ := info_parts hinfo
  cases B with
  | some ad =>
    refine wp_append_own w s x t ho base e i0 z size bytes ht hi hz0 hz1 hz2 hzs hsz _ n xs hs hown ad m d news hx hl (rd_add hR) h1 h63 hbytes hbase fun v' w' hown' hg _ => ?_
    obtain ⟨A', c', rfl⟩ := own_slice hown'
    exact h A' c' w' hown' hg (own_grown hown hbase hg)
  | none =>
    obtain ⟨rfl, rfl⟩ := hd rfl
    have hnil : news = [] := List.eq_nil_of_length_eq_zero (by rw [hl]; simp)
    subst hnil
    have hrun := run_append_owned_none (P := Tryd.prog) (w := w) base t o.type e i0 size ht hi _ n xs hown
    unfold Oper.wp
    simp only [execOp, ho, resolve, invoke, builtin, Sem.run_bind, Sem.run_pure, Result.andThen_ok, List.map_toArray, List.map_cons, List.map_nil, hs, hx, hrun]
    exact h A c w (by simpa using hown) (grown_refl _ _) (Below.refl _ _)

theorem step_app {ops : Array Oper} {o : Oper} {a : Act} {w : World} {K : Act → World → Prop} {Q : Exit → Act → World → Prop} {F : Prop} (hgd : o.guard = none) (s x : Operand) (t e : TypeId)
    (ho : o.op = .call { callee := .builtin .append, args := #[s, x], argTypes := #[t, t] })
    (base : Nat) (z : Value) (size bytes : Nat) (ht : Tryd.prog.underlying t = some (.slice e)) (hinfo : (Tryd.prog.info? e).map (fun i => (i.zero, i.size, i.bytes)) = some (some z, size, bytes)) (hzs : z.cells.size = size) (hsz : 0 < size)
    (A : Option Addr) (n c : Nat) (xs : List Value) (hs : a.eval s = .slice A n c) (hown : w.ownsRow base e size (.slice A n c) n xs)
    (B : Option Addr) (m d : Nat) (news : List Value) (hx : a.eval x = .slice B m d) (hd : B = none → m = 0 ∧ d = 0) (hl : news.length = m * size) (hR : Rd w B news) (h1 : ∀ u ∈ news, u.oneCell' = true)
    (N : Nat) (hN : n + m = N) (ys : List Value) (hys : xs ++ news = ys) (h63 : N ≤ maxLen) (hbytes : N * bytes ≤ 140737488355328) (hbase : base ≤ w.heap.size)
    (h : ∀ A' c' w', w'.ownsRow base e size (.slice A' N c') N ys → w.grownBy w' (Value.ownBlock (.slice A n c)) → Below base w w' → K (a.put o.dst (.slice A' N c')) w') :
    if Region.wanted o (yielded ops a.tmps) = true then Oper.wp Tryd.prog o a w K Q else F := by
  have hw : Region.wanted o (yielded ops a.tmps) = true := by simp [Region.wanted, hgd]
  rw [if_pos hw]
  exact wp_app s x t e ho base z size bytes ht hinfo hzs hsz A n c xs hs hown B m d news hx hd hl hR h1 N hN ys hys h63 hbytes hbase h

theorem wpList_app {ops : Array Oper} {rest : List Oper} {o : Oper} {a : Act} {w : World} {Q : Exit → Act → World → Prop} (hgd : o.guard = none) (s x : Operand) (t e : TypeId)
    (ho : o.op = .call { callee := .builtin .append, args := #[s, x], argTypes := #[t, t] })
    (base : Nat) (z : Value) (size bytes : Nat) (ht : Tryd.prog.underlying t = some (.slice e)) (hinfo : (Tryd.prog.info? e).map (fun i => (i.zero, i.size, i.bytes)) = some (some z, size, bytes)) (hzs : z.cells.size = size) (hsz : 0 < size)
    (A : Option Addr) (n c : Nat) (xs : List Value) (hs : a.eval s = .slice A n c) (hown : w.ownsRow base e size (.slice A n c) n xs)
    (B : Option Addr) (m d : Nat) (news : List Value) (hx : a.eval x = .slice B m d) (hd : B = none → m = 0 ∧ d = 0) (hl : news.length = m * size) (hR : Rd w B news) (h1 : ∀ u ∈ news, u.oneCell' = true)
    (N : Nat) (hN : n + m = N) (ys : List Value) (hys : xs ++ news = ys) (h63 : N ≤ maxLen) (hbytes : N * bytes ≤ 140737488355328) (hbase : base ≤ w.heap.size)
    (h : ∀ A' c' w', w'.ownsRow base e size (.slice A' N c') N ys → w.grownBy w' (Value.ownBlock (.slice A n c)) → Below base w w' → wpList Tryd.prog ops Q rest (a.put o.dst (.slice A' N c')) w') : wpList Tryd.prog ops Q (o :: rest) a w :=
  wpList_plain hgd fun _ hK => wp_app s x t e ho base z size bytes ht hinfo hzs hsz A n c xs hs hown B m d news hx hd hl hR h1 N hN ys hys h63 hbytes hbase fun A' c' w' h2 h3 h4 => hK _ _ (h A' c' w' h2 h3 h4)

theorem rd_take {w : World} {A : Option Addr} {xs : List Value} (h : Rd w A xs) (m : Nat) : Rd w A (xs.take m) := by
  rcases h with rfl | ⟨b, o, rfl, hlt, hc⟩
  · exact .inl (by simp)
  · refine .inr ⟨b, o, rfl, hlt, fun k v hk => hc k v ?_⟩
    rw [List.getElem?_take] at hk
    split at hk
    · exact hk
    · cases hk

/-- s[k:], whatever the capacity is. -/
theorem rd_cut {w : World} {A : Option Addr} {xs : List Value} {s n k cap : Nat} (h : Rd w A xs) (hl : xs.length = n * s) (hk : k ≤ n) (hc : n ≤ cap) :
    Rd w (if cap = k then A else A.map (·.add (k * s))) (xs.drop (k * s)) := by
  by_cases he : cap = k
  · left
    obtain rfl : n = k := by omega
    exact List.drop_of_length_le (by omega)
  · rw [if_neg he]
    rcases h with rfl | ⟨b, o, rfl, hlt, hcell⟩
    · exact .inl (by simp)
    · right
      refine ⟨b, o + k * s, ?_, hlt, fun j v hj => ?_⟩
      · simp only [Option.map_some]
        unfold Addr.add; split
        · simp_all
        · rfl
      · rw [List.getElem?_drop] at hj
        rw [Nat.add_assoc]
        exact hcell _ v hj

theorem rd_drewN {w : World} {A : Option Addr} {xs : List Value} (h : Rd w A xs) (n : Nat) : Rd (w.drewN n) A xs := h
theorem rd_drew {w : World} {A : Option Addr} {xs : List Value} (h : Rd w A xs) : Rd w.drew A xs := h

theorem cut_none {A : Option Addr} {k s cap : Nat} (h : (if cap = k then A else A.map (·.add (k * s))) = none) : A = none := by
  split at h
  · exact h
  · simpa using h

theorem own_blank {w : World} {g base : Nat} {e : TypeId} {s : Nat} (h : Blk w g e []) (hb : base ≤ g) : w.ownsRow base e s (.slice (some ⟨g, 0, none⟩) 0 0) 0 [] :=
  ⟨by simp, .inr ⟨g, 0, _, rfl, hb, h, Nat.le_refl _, Nat.zero_le _, by simp, by simp⟩⟩

theorem own_blk1 {w : World} {g base : Nat} {e : TypeId} {s n : Nat} {cs : List Value} (h : Blk w g e cs) (hb : base ≤ g) (hl : cs.length = n * s) (hn : n ≤ maxLen) : w.ownsRow base e s (.slice (some ⟨g, 0, none⟩) n n) n cs :=
  ⟨hl, .inr ⟨g, n, _, rfl, hb, h, Nat.le_refl _, hn, by simpa using hl, by rw [← hl]; simp⟩⟩

theorem blk_new {w : World} {t : TypeId} {cs : List Value} {g : Nat} (h : g = w.heap.size) : Blk (w.alloc (.cells cs.toArray t)) g t cs := by subst h; exact Blk.new w t cs
theorem blk_grown {w w' : World} {g : Nat} {t : TypeId} {cs : List Value} {row : Option Nat} (h : Blk w g t cs) (hb : w.grownBy w' row) (hg : some g ≠ row) : Blk w' g t cs := (hb.block g h.lt hg).trans h

theorem below1 (W : World) (o : Obj) : Below W.heap.size W (W.alloc o).drew := by
  have h := (Below.refl W.heap.size W).alloc (Nat.le_refl _) o
  exact ⟨h.os, h.tape, h.output, h.size, h.block⟩
theorem below2 (W : World) (o o' : Obj) : Below W.heap.size W ((W.alloc o).alloc o').drew := by
  have h := ((Below.refl W.heap.size W).alloc (Nat.le_refl _) o).alloc (by simp) o'
  exact ⟨h.os, h.tape, h.output, h.size, h.block⟩

theorem ints_one (l : List Int) : ∀ u ∈ ints l, u.oneCell' = true := by
  intro u hu
  simp only [ints, List.mem_map] at hu
  obtain ⟨x, _, rfl⟩ := hu
  rfl

/-- A record that lies in s cells. -/
class Cellful (α : Type) where
  cells : α → List Value
  s : Nat
  dflt : α
  len : ∀ a, (cells a).length = s
  one : ∀ a, ∀ u ∈ cells a, u.oneCell' = true

section
variable {α : Type} [C : Cellful α]

/-- The cells of a row. -/
def rows (l : List α) : List Value := l.flatMap C.cells

theorem rows_length (l : List α) : (rows l).length = l.length * C.s := by
  induction l with
  | nil => simp [rows]
  | cons a l ih =>
    simp only [rows, List.flatMap_cons, List.length_append, List.length_cons] at *
    rw [ih, C.len, Nat.succ_mul]; omega

theorem rows_cons (a : α) (l : List α) : rows (a :: l) = C.cells a ++ rows l := by simp [rows]
theorem rows_append (l r : List α) : rows (l ++ r) = rows l ++ rows r := by simp [rows]
theorem rows_one (l : List α) : ∀ u ∈ rows l, u.oneCell' = true := by
  intro u hu
  simp only [rows, List.mem_flatMap] at hu
  obtain ⟨a, _, h⟩ := hu
  exact C.one a u h
theorem rows_single (a : α) : rows [a] = C.cells a := by simp [rows]

theorem rows_at {l : List α} : ∀ {k : Nat}, k < l.length → ∀ j, j < C.s → (rows l)[k * C.s + j]? = (C.cells (l.getD k C.dflt))[j]? := by
  induction l with
  | nil => intro k h; simp at h
  | cons a l ih =>
    intro k h j hj
    rw [rows_cons]
    match k with
    | 0 => rw [List.getElem?_append_left (by rw [C.len]; omega)]; simp
    | k + 1 =>
      rw [List.getElem?_append_right (by rw [C.len, Nat.succ_mul]; omega)]
      have := ih (k := k) (by simpa using h) j hj
      rw [C.len, show (k + 1) * C.s + j - C.s = k * C.s + j by rw [Nat.succ_mul]; omega, this]
      simp

theorem rows_take (l : List α) (k : Nat) : (rows l).take (k * C.s) = rows (l.take k) := by
  rcases Nat.lt_or_ge k l.length with h | h
  · have e : rows l = rows (l.take k) ++ rows (l.drop k) := by rw [← rows_append, List.take_append_drop]
    rw [e, List.take_left' (by rw [rows_length, List.length_take, Nat.min_eq_left (by omega)])]
  · rw [List.take_of_length_le (by rw [rows_length]; exact Nat.mul_le_mul_right _ h), List.take_of_length_le h]
theorem rows_drop (l : List α) (k : Nat) : (rows l).drop (k * C.s) = rows (l.drop k) := by
  rcases Nat.lt_or_ge k l.length with h | h
  · have e : rows l = rows (l.take k) ++ rows (l.drop k) := by rw [← rows_append, List.take_append_drop]
    rw [e, List.drop_left' (by rw [rows_length, List.length_take, Nat.min_eq_left (by omega)])]
  · rw [List.drop_of_length_le (by rw [rows_length]; exact Nat.mul_le_mul_right _ h), List.drop_of_length_le h]; rfl

/-- The cells of the record number k, the first one and the others. -/
theorem rec_cell {w : World} {b o : Nat} {l : List α} (hc : ∀ k v, (rows l)[k]? = some v → w.cell? ⟨b, o + k, none⟩ = some v) {k : Nat} (hk : k < l.length) {x : α} (hx : l.getD k C.dflt = x) :
    ∀ j v, (C.cells x)[j]? = some v → w.cell? ⟨b, o + k * C.s + j, none⟩ = some v := by
  intro j v hj
  have hjs : j < C.s := by
    have := (List.getElem?_eq_some_iff.1 hj).1
    rwa [C.len] at this
  rw [Nat.add_assoc]
  exact hc _ v (by rw [rows_at hk j hjs, hx]; exact hj)

theorem rows_set {l : List α} : ∀ {k : Nat}, k < l.length → ∀ (j : Nat) (v : Value) (y : α), j < C.s → C.cells y = (C.cells (l.getD k C.dflt)).set j v → (rows l).set (k * C.s + j) v = rows (l.set k y) := by
  induction l with
  | nil => intro k h; simp at h
  | cons a l ih =>
    intro k h j v y hj hy
    rw [rows_cons]
    match k with
    | 0 =>
      simp only [Nat.zero_mul, Nat.zero_add, List.set_cons_zero, rows_cons]
      rw [List.set_append_left _ _ (by rw [C.len]; exact hj)]
      simp at hy
      rw [hy]
    | k + 1 =>
      rw [List.set_append_right _ _ (by rw [C.len, Nat.succ_mul]; omega), C.len, show (k + 1) * C.s + j - C.s = k * C.s + j by rw [Nat.succ_mul]; omega, ih (k := k) (by simpa using h) j v y hj (by simpa using hy)]
      simp [rows_cons]

/-- A slice of records that reads as a list. -/
abbrev RdR (w : World) (A : Option Addr) (l : List α) : Prop := Rd w A (rows l)

/-- A slice of records in a row of its own. -/
def RetRows (l : List α) (w : World) (e : Ending) (w' : World) : Prop :=
  ∃ A c, e = .returned (.slice A l.length c) ∧ Rd w' A (rows l) ∧ l.length ≤ c ∧ (A = none → c = 0) ∧ Below w.heap.size w w'
end

/-- Numbers in a row of their own. -/
def RetIntsC (l : List Int) (w : World) (e : Ending) (w' : World) : Prop :=
  ∃ A c, e = .returned (.slice A l.length c) ∧ Rd w' A (ints l) ∧ l.length ≤ c ∧ (A = none → c = 0) ∧ Below w.heap.size w w'

/-- Numbers in a row that the caller may write. -/
def RetIntsO (l : List Int) (w : World) (e : Ending) (w' : World) : Prop :=
  ∃ A c, e = .returned (.slice A l.length c) ∧ w'.ownsRow w.heap.size 3 1 (.slice A l.length c) l.length (ints l) ∧ Below w.heap.size w w'

/-- The closure (f, caps), asked at a record's value in a world behind w, answers p x and leaves alone what was there. -/
def AsksV {α : Type} (val : α → Value) (w : World) (f : FuncId) (caps : Array Value) (p : α → Bool) (l : List α) : Prop :=
  ∀ x, x ∈ l → ∀ w', Below w.heap.size w w' → Calls Tryd.prog f (#[val x] ++ caps) w' fun e w'' => e = .returned (.bool (p x)) ∧ Below w'.heap.size w' w''

theorem AsksV.later {α : Type} {val : α → Value} {w w1 : World} {f : FuncId} {caps : Array Value} {p : α → Bool} {l : List α} (h : AsksV val w f caps p l) (hb : Below w.heap.size w w1) : AsksV val w1 f caps p l :=
  fun x hx w' hb' => h x hx w' (hb.trans (hb'.mono hb.size))

/-- Where the first one is of which p holds. -/
def firstV {α : Type} (p : α → Bool) : List α → Nat → Int
  | [], _ => -1
  | x :: r, k => if p x then (k : Int) else firstV p r (k + 1)

theorem firstV_none {α : Type} {p : α → Bool} : ∀ (l : List α) (k : Nat), (∀ x ∈ l, p x = false) → firstV p l k = -1
  | [], _, _ => rfl
  | x :: r, k, h => by simp [firstV, h x (by simp), firstV_none r (k + 1) (fun y hy => h y (by simp [hy]))]

theorem firstV_lo {α : Type} {p : α → Bool} : ∀ (l : List α) (k : Nat), -1 ≤ firstV p l k ∧ (0 ≤ firstV p l k ↔ l.any p = true)
  | [], k => by simp [firstV]
  | x :: r, k => by
    have := firstV_lo (p := p) r (k + 1)
    simp only [firstV, List.any_cons]
    by_cases h : p x = true
    · simp [h]
    · simp only [Bool.not_eq_true] at h; simp [h, this]

theorem firstV_hit {α : Type} {p : α → Bool} (d : α) : ∀ (l : List α) (k j : Nat) (_ : j < l.length), (∀ i, i < j → p (l.getD i d) = false) → p (l.getD j d) = true → firstV p l k = (k + j : Nat)
  | x :: r, k, 0, _, _, hj => by simp at hj; simp [firstV, hj]
  | x :: r, k, j + 1, h, hi, hj => by
    have h0 := hi 0 (by omega)
    simp at h0
    simp [firstV, h0]
    rw [firstV_hit d r (k + 1) j (by simpa using h) (fun i hl => by simpa using hi (i + 1) (by omega)) (by simpa using hj)]
    simp; omega

/-- What is ahead of the first one that is to go, and whether one is. -/
theorem firstV_spec {α : Type} {p : α → Bool} (d : α) : ∀ (l : List α) (k : Nat), (firstV p l k = -1 ∧ l.filter (fun x => !p x) = l) ∨ ∃ j : Nat, j < l.length ∧ firstV p l k = ((k + j : Nat) : Int) ∧ p (l.getD j d) = true ∧ (l.take j).filter (fun x => !p x) = l.take j
  | [], k => .inl ⟨rfl, rfl⟩
  | x :: r, k => by
    by_cases h : p x = true
    · right; exact ⟨0, by simp, by simp [firstV, h], by simpa using h, by simp⟩
    · simp only [Bool.not_eq_true] at h
      rcases firstV_spec (p := p) d r (k + 1) with ⟨h1, h2⟩ | ⟨j, h1, h2, h3, h4⟩
      · left; exact ⟨by simp [firstV, h, h1], by simp [h, h2]⟩
      · right
        refine ⟨j + 1, by simpa using h1, ?_, by simpa using h3, by simp [h, h4]⟩
        simp [firstV, h, h2]; omega

end Go.Proofs.YtknlhkkpheahlaaDoor
