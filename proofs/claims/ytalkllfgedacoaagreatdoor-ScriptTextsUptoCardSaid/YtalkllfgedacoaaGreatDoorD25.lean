/- A script, read: what both ways come to. -/
import Derived.Test.YtalkllfgedacoaaGreatDoorD5
import Derived.Test.YtalkllfgedacoaaGreatDoorD13
import Derived.Test.YtalkllfgedacoaaGreatDoorD14
import Derived.Test.YtalkllfgedacoaaGreatDoorD19
import Derived.Test.YtalkllfgedacoaaGreatDoorD1
import Derived.Test.YtalkllfgedacoaaGreatDoorShelf
import Derived.Lib.AppendIntMem
import Derived.LaidEql
import Derived.Stop.Asserts
import Derived.RowKitTokens
import Derived.Deep.LoopGhost
import Derived.Lib.IfaceEq
namespace Go.Proofs.YtalkllfgedacoaaGreatDoor
open Go.RowKit Go.Sort

def LineNo (s : ByteArray) (w : World) (e : Ending) (w' : World) : Prop := lineQ s = none ∧ ∃ A n c, e = .returned (.tuple #[.slice A n c, .bool false]) ∧ Below w.heap.size w w'
def LineOk (s : ByteArray) (w : World) (e : Ending) (w' : World) : Prop := ∃ l A c, lineQ s = some l ∧ e = .returned (.tuple #[.slice A l.length c, .bool true]) ∧ EvsNew w' (fun b => w.heap.size ≤ b) A l.length l ∧ (A = none → l.length = 0 ∧ c = 0) ∧ Below w.heap.size w w'
def LineB (w : World) (e : Ending) (w' : World) : Prop := ∃ A n c, e = .returned (.tuple #[.slice A n c, .bool false]) ∧ Below w.heap.size w w'
def LineG (l : List Ev) (w : World) (e : Ending) (w' : World) : Prop := ∃ A c, e = .returned (.tuple #[.slice A l.length c, .bool true]) ∧ EvsNew w' (fun b => w.heap.size ≤ b) A l.length l ∧ (A = none → l.length = 0 ∧ c = 0) ∧ Below w.heap.size w w'
theorem line_no {f : FuncId} {args : Array Value} {W : World} {s : ByteArray} (h : Calls Tryz.prog f args W fun e w' => LineNo s W e w' ∨ LineOk s W e w') (hq : lineQ s = none) : Calls Tryz.prog f args W (LineB W) :=
  h.mono fun e w' h => by
    rcases h with ⟨_, h⟩ | ⟨l, A, c, h1, _⟩
    · exact h
    · rw [hq] at h1; cases h1
theorem line_ok {f : FuncId} {args : Array Value} {W : World} {s : ByteArray} {l : List Ev} (h : Calls Tryz.prog f args W fun e w' => LineNo s W e w' ∨ LineOk s W e w') (hq : lineQ s = some l) : Calls Tryz.prog f args W (LineG l W) :=
  h.mono fun e w' h => by
    rcases h with ⟨h1, _⟩ | ⟨l', A, c, h1, h⟩
    · rw [hq] at h1; cases h1
    · rw [hq] at h1
      injection h1 with h1
      subst h1
      exact ⟨A, c, h⟩
theorem lineQ_short {s : ByteArray} (h : (wordsC 32 s).length < 2) : lineQ s = none := by unfold lineQ lineW; rw [if_pos h]
theorem lineQ_bad {s : ByteArray} (h : ¬ (wordsC 32 s).length < 2) (hq : numQ 63 ((wordsC 32 s).getD 1 ⟨#[]⟩) = none) : lineQ s = none := by unfold lineQ lineW; rw [if_neg h, hq]
theorem lineQ_at {s : ByteArray} {t : Nat} (h : ¬ (wordsC 32 s).length < 2) (hq : numQ 63 ((wordsC 32 s).getD 1 ⟨#[]⟩) = some t) : lineQ s = lineT t (wordsC 32 s) := by unfold lineQ lineW; rw [if_neg h, hq]
theorem rd_wordK {w : World} {L k : Nat} {l : List ByteArray} (h : Rd w (some ⟨L, 0, none⟩) (rows l)) (hk : k < l.length) : L < w.heap.size ∧ w.cell? ⟨L, k, none⟩ = some (.string (l.getD k ⟨#[]⟩)) := by
  obtain ⟨b, o, e, hb, hc⟩ := strs_cell h (fun e => by rw [e] at hk; exact Nat.not_lt_zero _ hk)
  injection e with e
  injection e with e1 e2
  subst e1 e2
  refine ⟨hb, ?_⟩
  have := hc k (l.getD k ⟨#[]⟩) (by rw [List.getD, List.getElem?_eq_getElem hk]; rfl)
  rwa [Nat.zero_add] at this
theorem rd_dropW {w : World} {L k : Nat} {l : List ByteArray} (h : Rd w (some ⟨L, 0, none⟩) (rows l)) (hk : k < l.length) : Rd w (some ⟨L, k, none⟩) (rows (l.drop k)) := by
  obtain ⟨b, o, e, hb, hc⟩ := strs_cell h (fun e => by rw [e] at hk; exact Nat.not_lt_zero _ hk)
  injection e with e
  injection e with e1 e2
  subst e1 e2
  refine .inr ⟨_, k, rfl, hb, fun j v hj => ?_⟩
  rw [strs_rows, List.getElem?_map, List.getElem?_drop] at hj
  cases hx : l[k + j]? with
  | none => rw [hx] at hj; cases hj
  | some x =>
    rw [hx] at hj
    injection hj with hj
    have := hc (k + j) x hx
    rw [← hj]
    rwa [Nat.zero_add] at this
theorem evs_one {w : World} {g : Nat} {a : EvR} {x : Ev} (h : Blk w g 74 a.cells) {F : Nat → Prop} (ha : EvF w F a x) : EvsNew w F (some ⟨g, 0, none⟩) 1 [x] :=
  ⟨[a], rfl, (by have := h.rd; rw [rows_cons]; show Rd w _ (a.cells ++ []); rw [List.append_nil]; exact this), ha, trivial⟩
theorem evs_rep {w : World} {A : Option Addr} {a : EvR} {x : Ev} {n : Nat} (h : Rd w A (rows (List.replicate n a))) {F : Nat → Prop} (ha : EvF w F a x) : EvsNew w F A n (List.replicate n x) :=
  ⟨List.replicate n a, List.length_replicate, h, EvsF.rep ha n⟩
/-- A pick, as it lies. -/
def evpR (t : Int) : EvR := ⟨1, t, ⟨0, 0, 0, false, .none, 0, 0⟩, 0, .none, 0, 0⟩
theorem evpR_at (w : World) (F : Nat → Prop) (t : Int) : EvF w F (evpR t) (evPick t) := ⟨EvAt.none w 1 t, fun h => absurd rfl h, fun h => absurd rfl h⟩
theorem rep_snoc (j : Nat) (e : EvR) : rows (List.replicate j e) ++ rows [e] = rows (List.replicate (j + 1) e) := by rw [← rows_append, List.replicate_succ']
theorem evs_src (w : World) (t : Int) : Rd (w.alloc (.cells (evpR t).cells.toArray 74)) (some ⟨w.heap.size, 0, none⟩) (rows [evpR t]) := by
  have h := (Blk.new w 74 (evpR t).cells).rd
  rw [rows_cons]
  show Rd _ _ ((evpR t).cells ++ [])
  rw [List.append_nil]
  exact h
def NumB (W : World) (e : Ending) (w' : World) : Prop := e = .returned (.tuple #[.slice none 0 0, .bool false]) ∧ Below W.heap.size W w'
def NumG (x : List Nat) (n : Nat) (W : World) (e : Ending) (w' : World) : Prop := ∃ A c, e = .returned (.tuple #[.slice A n c, .bool true]) ∧ w'.ownsRow W.heap.size 3 1 (.slice A n c) n (ints (x.map Int.ofNat)) ∧ Below W.heap.size W w'
theorem nums_no {f : FuncId} {args : Array Value} {W : World} {most : Nat} {l : List ByteArray} (h : Calls Tryz.prog f args W (NumsPost most l W)) (hq : numsQ most l = none) : Calls Tryz.prog f args W (NumB W) :=
  h.mono fun e w' h => by
    rcases h with ⟨_, he, hb⟩ | ⟨x, A, c, h1, _⟩
    · exact ⟨he, hb⟩
    · rw [hq] at h1; cases h1
theorem nums_ok {f : FuncId} {args : Array Value} {W : World} {most n : Nat} {l : List ByteArray} {x : List Nat} (h : Calls Tryz.prog f args W (NumsPost most l W)) (hq : numsQ most l = some x) (hn : x.length = n) : Calls Tryz.prog f args W (NumG x n W) :=
  h.mono fun e w' h => by
    rcases h with ⟨h1, _⟩ | ⟨x', A, c, h1, he, hO, hb⟩
    · rw [hq] at h1; cases h1
    · rw [hq] at h1
      injection h1 with h1
      subst h1
      subst hn
      exact ⟨A, c, he, hO, hb⟩
theorem nums_tailR {w : World} {g : Nat} {x : List Nat} (h : ∀ k, k < x.length → w.cell? ⟨g, k, none⟩ = some (.int .i64 (x.getD k 0 : Nat))) (hg : g < w.heap.size) : Rd w (some ⟨g, 1, none⟩) (ints (x.tail.map Int.ofNat)) := by
  refine .inr ⟨g, 1, rfl, hg, fun k v hk => ?_⟩
  unfold ints at hk
  rw [List.getElem?_map, List.getElem?_map, List.getElem?_tail] at hk
  cases hx : x[k + 1]? with
  | none => rw [hx] at hk; cases hk
  | some y =>
    rw [hx] at hk
    injection hk with hk
    have hl := (List.getElem?_eq_some_iff.1 hx).1
    have hc := h (k + 1) hl
    rw [List.getD, hx] at hc
    rw [← hk, Nat.add_comm 1 k]
    exact hc
def CallB (W : World) (e : Ending) (w' : World) : Prop := ∃ q : Reqr, e = .returned (.tuple #[reqV q, .bool false]) ∧ Below W.heap.size W w'
def CallG (r : Rq) (W : World) (e : Ending) (w' : World) : Prop := ∃ (A : Option Addr) (c : Nat), e = .returned (.tuple #[reqV ⟨r.kind, r.arg, r.value, r.dflt, A, r.cs.length, c⟩, .bool true]) ∧ Rd w' A (rows r.cs) ∧ (∀ b o, A = some ⟨b, o, none⟩ → W.heap.size ≤ b) ∧ Below W.heap.size W w'
theorem call_no {f : FuncId} {args : Array Value} {W : World} {l : List ByteArray} (h : Calls Tryz.prog f args W fun e w' => CallNo l W e w' ∨ CallOk l W e w') (hq : callQ l = none) : Calls Tryz.prog f args W (CallB W) :=
  h.mono fun e w' h => by
    rcases h with ⟨_, q, he, hb⟩ | ⟨r, A, c, h1, _⟩
    · exact ⟨q, he, hb⟩
    · rw [hq] at h1; cases h1
theorem call_ok {f : FuncId} {args : Array Value} {W : World} {l : List ByteArray} {r : Rq} (h : Calls Tryz.prog f args W fun e w' => CallNo l W e w' ∨ CallOk l W e w') (hq : callQ l = some r) : Calls Tryz.prog f args W (CallG r W) :=
  h.mono fun e w' h => by
    rcases h with ⟨h1, _⟩ | ⟨r', A, c, h1, he, hR, hf, hb⟩
    · rw [hq] at h1; cases h1
    · rw [hq] at h1
      injection h1 with h1
      subst h1
      exact ⟨A, c, he, hR, hf, hb⟩

end Go.Proofs.YtalkllfgedacoaaGreatDoor

namespace Go.Proofs.YtalkllfgedacoaaGreatDoor
open Go.RowKit Go.Sort Go.Extern.Stop Go.Stop Go.Extern

abbrev errnoV (e : Int) : Value := .iface 34 (.int .i64 e)
abbrev faultV (g : Nat) : Value := .iface 105 (.pointer (some ⟨g, 0, none⟩))

/-- The error v is faults, from without, around a number; their blocks lie from B on. -/
def Chain (B : Nat) (w : World) : Value → List (ByteArray × Int) → Int → Prop
  | v, [], e => v = errnoV e
  | v, (s, p) :: r, e => ∃ g v', v = faultV g ∧ B ≤ g ∧ Blk w g 108 [.string s, .int .i64 p, v'] ∧ Chain B w v' r e

theorem Chain.below {B : Nat} {w w' : World} (hb : Below w.heap.size w w') : ∀ {l : List (ByteArray × Int)} {v : Value} {e : Int}, Chain B w v l e → Chain B w' v l e
  | [], _, _, h => h
  | (_, _) :: _, _, _, ⟨g, v', h1, hB, h2, h3⟩ => ⟨g, v', h1, hB, h2.below hb h2.lt, Chain.below hb h3⟩

theorem Chain.mono {B B' : Nat} {w : World} (hB' : B' ≤ B) : ∀ {l : List (ByteArray × Int)} {v : Value} {e : Int}, Chain B w v l e → Chain B' w v l e
  | [], _, _, h => h
  | (_, _) :: _, _, _, ⟨g, v', h1, hB, h2, h3⟩ => ⟨g, v', h1, Nat.le_trans hB' hB, h2, Chain.mono hB' h3⟩

/-- What is written ahead of them leaves them alone. -/
theorem Chain.set_ {B : Nat} {w : World} {b i : Nat} (x : Value) (hb : b < B) : ∀ {l : List (ByteArray × Int)} {v : Value} {e : Int}, Chain B w v l e → Chain B (w.setCell ⟨b, i, none⟩ x) v l e
  | [], _, _, h => h
  | (_, _) :: _, _, _, ⟨g, v', h1, hB, h2, h3⟩ => ⟨g, v', h1, hB, (Below.heap_setCell w ⟨b, i, none⟩ x g (by show g ≠ b; omega)).trans h2, Chain.set_ x hb h3⟩

theorem Chain.iface {B : Nat} {w : World} {v : Value} {l : List (ByteArray × Int)} {e : Int} (h : Chain B w v l e) : ∃ t u, v = .iface t u := by
  cases l with
  | nil => exact ⟨_, _, h⟩
  | cons a r => obtain ⟨a1, a2⟩ := a; obtain ⟨g, v', h1, _⟩ := h; exact ⟨_, _, h1⟩

set_option maxHeartbeats 400000 in
theorem At_none (s : ByteArray) (p : Int) (w : World) :
    Calls Tryz.prog 46 #[.string s, .int .i64 p, .int .i64 0] w fun e w' => e = .returned .nilIface ∧ w' = w := by
  go_enter Tryz.func46, Tryz.ntmps46
  go_wp2
  go_ret
  exact ⟨rfl, rfl⟩

set_option maxHeartbeats 400000 in
theorem At_any (s : ByteArray) (p e : Int) (w : World) (he : e ≠ 0) :
    Calls Tryz.prog 46 #[.string s, .int .i64 p, .int .i64 e] w fun er w' => ∃ v, er = .returned v ∧ Chain w.heap.size w' v [(s, p)] e ∧ Below w.heap.size w w' := by
  have b1 : (e == 0) = false := by simpa using he
  go_enter Tryz.func46, Tryz.ntmps46
  go_wp2
  go_ret
  exact ⟨_, rfl, ⟨w.heap.size, _, rfl, Nat.le_refl _, Blk.new w _ [.string s, .int .i64 p, errnoV e], rfl⟩, (Below.refl _ _).alloc (Nat.le_refl _) _⟩

set_option maxHeartbeats 1000000 in
theorem Unwrap_any (g : Nat) (s : ByteArray) (p : Int) (v : Value) (w : World) (hb : Blk w g 108 [.string s, .int .i64 p, v]) :
    Calls Tryz.prog 209 #[.pointer (some ⟨g, 0, none⟩)] w fun e w' => e = .returned v ∧ w' = w := by
  have c2 : w.cell? ⟨g, 2, none⟩ = some v := hb.cell rfl
  clear hb
  go_enter Tryz.func209, Tryz.ntmps209
  go_wp2
  go_ret
  exact ⟨rfl, rfl⟩

theorem noUnwrapE (v : Value) (xT : TypeId) (w : World) : (Instr.typeAssert (.iface 34 v) xT 197 true).run Tryz.prog w = .ok (.tuple #[.nilIface, .bool false]) w := run_typeAssert_lacksB Tryz.underlying197 (by kernel_rfl) (by kernel_rfl) v xT w
theorem noUnwrapsE (v : Value) (xT : TypeId) (w : World) : (Instr.typeAssert (.iface 34 v) xT 199 true).run Tryz.prog w = .ok (.tuple #[.nilIface, .bool false]) w := run_typeAssert_lacksB Tryz.underlying199 (by kernel_rfl) (by kernel_rfl) v xT w
theorem hasUnwrapF (v : Value) (xT : TypeId) (w : World) : (Instr.typeAssert (.iface 105 v) xT 197 true).run Tryz.prog w = .ok (.tuple #[.iface 105 v, .bool true]) w := run_typeAssert_hasB Tryz.underlying197 (by kernel_rfl) v xT w

theorem mUnwrap (n : Nat) (v : Value) (w : World) : (Go.method (n + 1) 105 v "Unwrap").run Tryz.prog w = .ok (209, v) w := by kernel_rfl
theorem mErrorF (n : Nat) (v : Value) (w : World) : (Go.method (n + 1) 105 v "Error").run Tryz.prog w = .ok (208, v) w := by kernel_rfl
theorem mErrorE (n : Nat) (v : Value) (w : World) : (Go.method (n + 1) 34 v "Error").run Tryz.prog w = .ok (207, v) w := by kernel_rfl

def compX : Array Value → Sem Value := Extern.ReflectliteType.method fun t => do Extern.Rtype.noPackHeld "Comparable" t; pure (.bool (← typeInfo t).comparable)
theorem tTypeOf (v : Value) (w : World) : (Extern.ReflectliteType.typeOf #[.iface 34 v]).run Tryz.prog w = .ok (.iface 189 (.agg #[.pointer (some ⟨Tryz.prog.globals.size, 34, none⟩)])) w := by kernel_rfl
theorem tComparable (b : Nat) (hb : b = Tryz.prog.globals.size) (w : World) : (compX #[.agg #[.pointer (some ⟨b, 34, none⟩)]]).run Tryz.prog w = .ok (.bool true) w := by subst hb; kernel_rfl
theorem mComparable (n : Nat) (v : Value) (w : World) : (Go.method (n + 1) 189 v "Comparable").run Tryz.prog w = .ok (216, v) w := by kernel_rfl

end Go.Proofs.YtalkllfgedacoaaGreatDoor

namespace Go.Proofs.YtalkllfgedacoaaGreatDoor
open Go.RowKit Go.Sort

theorem app_where {P : Program} (w : World) (base : Nat) (t ty e : TypeId) (i : TypeInfo) (z : Value) (size bytes : Nat) (ht : P.underlying t = some (.slice e)) (hi : P.info? e = some i) (hz : i.zero = some z)
    (hsize : i.size = size) (hby : i.bytes = bytes) (v : Value) (n : Nat) (xs : List Value) (hown : w.ownsRow base e size v n xs)
    (a : Addr) (m c : Nat) (news : List Value) (hl : news.length = m * size) (hnews : ∀ j u, news[j]? = some u → w.cell? (a.add j) = some u) (h1 : ∀ u ∈ news, u.oneCell' = true)
    (h63 : n + m ≤ maxLen) (hbytes : (n + m) * bytes ≤ 140737488355328) {v' : Value} {w' : World} (hrun : (Builtin.append_ #[t, t] ty #[v, .slice (some a) m c]).run P w = .ok v' w') :
    ∀ k, v'.ownBlock = some k → v.ownBlock = some k ∨ w.heap.size ≤ k := by
  subst hsize
  subst hby
  have hsmall : n + m ≤ 9223372036854775807 := by simp only [maxLen] at h63; omega
  rcases hown.2 with ⟨rfl, rfl⟩ | ⟨g, cap, cur, rfl, hbg, hg, hnc, hcm, hcs, htake⟩
  · by_cases hm : m = 0
    · subst hm
      have hr : (Builtin.append_ #[t, t] ty #[.slice none 0 0, .slice (some a) 0 c]).run P w = .ok (.slice none 0 0) w := by
        simp [Builtin.append_, run_underlying ht, sizeOf, typeInfo, hi, Builtin.lenOf, Builtin.firstCells, loadCells, loadCellsFrom]
      rw [hr] at hrun
      injection hrun with e1 e2
      subst e1
      intro k hk
      cases hk
    · have hr := run_append_nil (P := P) w t ty e i z ht hi hz a m c news hl hnews (by omega) (by omega) (by have hb := hbytes; simp only [Nat.zero_add] at hb; omega)
      rw [hr] at hrun
      injection hrun with e1 e2
      subst e1
      intro k hk
      injection hk with hk
      exact .inr (by rw [← hk]; exact Nat.le_refl _)
  · by_cases hroom : n + m ≤ cap
    · have hfit : n * i.size + news.length ≤ cur.size := by rw [hl, hcs, ← Nat.add_mul]; exact Nat.mul_le_mul_right _ hroom
      have hr := run_append_room (P := P) w t ty e i ht hi g n cap cur hg a m c news hl hnews h1 hroom hfit
      rw [hr] at hrun
      injection hrun with e1 e2
      subst e1
      exact fun k hk => .inl hk
    · have holds : ∀ j u, xs[j]? = some u → w.cell? ((⟨g, 0, none⟩ : Addr).add j) = some u := hown.cells (g := g) rfl
      have hr := run_append_grow (P := P) w t ty e i z ht hi hz ⟨g, 0, none⟩ n cap xs hown.1 holds a m c news hl hnews (by omega) (by omega) (growslice_fits (by omega) hbytes)
      rw [hr] at hrun
      injection hrun with e1 e2
      subst e1
      intro k hk
      injection hk with hk
      exact .inr (by rw [← hk]; exact Nat.le_refl _)

theorem wp_app2 {o : Oper} {a : Act} {w : World} {K : Act → World → Prop} {Q : Exit → Act → World → Prop} (s x : Operand) (t e : TypeId)
    (ho : o.op = .call { callee := .builtin .append, args := #[s, x], argTypes := #[t, t] })
    (base : Nat) (z : Value) (size bytes : Nat) (ht : Tryz.prog.underlying t = some (.slice e)) (hinfo : (Tryz.prog.info? e).map (fun i => (i.zero, i.size, i.bytes)) = some (some z, size, bytes)) (hzs : z.cells.size = size) (hsz : 0 < size)
    (A : Option Addr) (n c : Nat) (xs : List Value) (hs : a.eval s = .slice A n c) (hown : w.ownsRow base e size (.slice A n c) n xs)
    (B : Option Addr) (m d : Nat) (news : List Value) (hx : a.eval x = .slice B m d) (hd : B = none → m = 0 ∧ d = 0) (hl : news.length = m * size) (hR : Rd w B news) (h1 : ∀ u ∈ news, u.oneCell' = true)
    (N : Nat) (hN : n + m = N) (ys : List Value) (hys : xs ++ news = ys) (h63 : N ≤ maxLen) (hbytes : N * bytes ≤ 140737488355328) (hbase : base ≤ w.heap.size)
    (h : ∀ A' c' w', w'.ownsRow base e size (.slice A' N c') N ys → w.grownBy w' (Value.ownBlock (.slice A n c)) → Below base w w' → (∀ k, Value.ownBlock (.slice A' N c') = some k → Value.ownBlock (.slice A n c) = some k ∨ w.heap.size ≤ k) → K (a.put o.dst (.slice A' N c')) w') : o.wp Tryz.prog a w K Q := by
  subst hN hys
  obtain ⟨i0, hi, hz0, hz1, hz2⟩ := info_parts hinfo
  cases B with
  | some ad =>
    obtain ⟨v', w', hrun, hown', hg, _⟩ := run_append_own (P := Tryz.prog) (w := w) base t o.type e i0 z size bytes ht hi hz0 hz1 hz2 hzs hsz _ n xs hown ad m d news hl (rd_add hR) h1 h63 hbytes hbase
    have hw := app_where w base t o.type e i0 z size bytes ht hi hz0 hz1 hz2 _ n xs hown ad m d news hl (rd_add hR) h1 h63 hbytes hrun
    obtain ⟨A', c', rfl⟩ := own_slice hown'
    unfold Oper.wp
    simp only [execOp, ho, resolve, invoke, builtin, Sem.run_bind, Sem.run_pure, Result.andThen_ok, List.map_toArray, List.map_cons, List.map_nil, hs, hx, hrun]
    exact h A' c' w' hown' hg (own_grown hown hbase hg) hw
  | none =>
    obtain ⟨rfl, rfl⟩ := hd rfl
    have hnil : news = [] := List.eq_nil_of_length_eq_zero (by rw [hl]; simp)
    subst hnil
    have hrun := run_append_owned_none (P := Tryz.prog) (w := w) base t o.type e i0 size ht hi _ n xs hown
    unfold Oper.wp
    simp only [execOp, ho, resolve, invoke, builtin, Sem.run_bind, Sem.run_pure, Result.andThen_ok, List.map_toArray, List.map_cons, List.map_nil, hs, hx, hrun]
    exact h A c w (by simpa using hown) (grown_refl _ _) (Below.refl _ _) (fun k hk => .inl hk)

theorem wpList_app2 {ops : Array Oper} {rest : List Oper} {o : Oper} {a : Act} {w : World} {Q : Exit → Act → World → Prop} (hgd : o.guard = none) (s x : Operand) (t e : TypeId)
    (ho : o.op = .call { callee := .builtin .append, args := #[s, x], argTypes := #[t, t] })
    (base : Nat) (z : Value) (size bytes : Nat) (ht : Tryz.prog.underlying t = some (.slice e)) (hinfo : (Tryz.prog.info? e).map (fun i => (i.zero, i.size, i.bytes)) = some (some z, size, bytes)) (hzs : z.cells.size = size) (hsz : 0 < size)
    (A : Option Addr) (n c : Nat) (xs : List Value) (hs : a.eval s = .slice A n c) (hown : w.ownsRow base e size (.slice A n c) n xs)
    (B : Option Addr) (m d : Nat) (news : List Value) (hx : a.eval x = .slice B m d) (hd : B = none → m = 0 ∧ d = 0) (hl : news.length = m * size) (hR : Rd w B news) (h1 : ∀ u ∈ news, u.oneCell' = true)
    (N : Nat) (hN : n + m = N) (ys : List Value) (hys : xs ++ news = ys) (h63 : N ≤ maxLen) (hbytes : N * bytes ≤ 140737488355328) (hbase : base ≤ w.heap.size)
    (h : ∀ A' c' w', w'.ownsRow base e size (.slice A' N c') N ys → w.grownBy w' (Value.ownBlock (.slice A n c)) → Below base w w' → (∀ k, Value.ownBlock (.slice A' N c') = some k → Value.ownBlock (.slice A n c) = some k ∨ w.heap.size ≤ k) → wpList Tryz.prog ops Q rest (a.put o.dst (.slice A' N c')) w') : wpList Tryz.prog ops Q (o :: rest) a w :=
  wpList_plain hgd fun _ hK => wp_app2 s x t e ho base z size bytes ht hinfo hzs hsz A n c xs hs hown B m d news hx hd hl hR h1 N hN ys hys h63 hbytes hbase fun A' c' w' h2 h3 h4 h5 => hK _ _ (h A' c' w' h2 h3 h4 h5)

end Go.Proofs.YtalkllfgedacoaaGreatDoor

namespace Go.Proofs.YtalkllfgedacoaaGreatDoor
open Go.RowKit Go.Sort

abbrev lineB : ByteArray := ⟨#[108, 105, 110, 101]⟩
def ReadWr (s : ByteArray) (w : World) (e : Ending) (w' : World) : Prop := ∃ (line code : Nat) (v : Value), readQ s = .wrong line code ∧ code ≠ 0 ∧ e = .returned (.tuple #[.slice none 0 0, v]) ∧ Chain w.heap.size w' v [(lineB, (line : Int))] (code : Int) ∧ Below w.heap.size w w'
def ReadRt (s : ByteArray) (w : World) (e : Ending) (w' : World) : Prop := ∃ l A c, readQ s = .right l ∧ e = .returned (.tuple #[.slice A l.length c, .nilIface]) ∧ EvsIn w' A l.length l ∧ (A = none → l.length = 0 ∧ c = 0) ∧ l.length ≤ c ∧ l.length ≤ 16384 ∧ Below w.heap.size w w'
def rReadWr (s : ByteArray) (w : World) (e : Ending) (w' : World) : Prop := ∃ line code : Nat, readQ s = .wrong line code ∧ code ≠ 0 ∧ e = .returned (.tuple #[.slice none 0 0, .int .i64 line, .int .i64 code]) ∧ Below w.heap.size w w'
def rReadRt (s : ByteArray) (w : World) (e : Ending) (w' : World) : Prop := ∃ l A c, readQ s = .right l ∧ e = .returned (.tuple #[.slice A l.length c, .int .i64 0, .int .i64 0]) ∧ EvsIn w' A l.length l ∧ (A = none → l.length = 0 ∧ c = 0) ∧ l.length ≤ c ∧ l.length ≤ 16384 ∧ Below w.heap.size w w'

theorem readL_skip {k : Nat} {x : ByteArray} {r : List ByteArray} {out : List Ev} (h : skipQ x = true) : readL k (x :: r) out = readL (k + 1) r out := by rw [readL, if_pos h]
theorem readL_bad2 {k c : Nat} {x : ByteArray} {r : List ByteArray} {out : List Ev} (h : skipQ x = false) (hc : lineC x out.length = some c) : readL k (x :: r) out = .wrong (k + 1) c := by
  rw [readL, if_neg (by rw [h]; exact Bool.false_ne_true), hc]
theorem readL_good {k : Nat} {x : ByteArray} {r : List ByteArray} {out l : List Ev} (h : skipQ x = false) (hc : lineC x out.length = none) (hl : lineQ x = some l) : readL k (x :: r) out = readL (k + 1) r (out ++ l) := by
  rw [readL, if_neg (by rw [h]; exact Bool.false_ne_true), hc, hl]
  rfl
theorem lineC_noneS {x : ByteArray} {m : Nat} (h : lineQ x = none) : lineC x m = some (if 120 < x.size then 4 else 17) := by unfold lineC; rw [h]
theorem lineC_someS {x : ByteArray} {m : Nat} {l : List Ev} (h : lineQ x = some l) : lineC x m = if 120 < x.size ∨ 16384 < m + l.length then some 4 else none := by unfold lineC; rw [h]
theorem lineQ_lenE {x : ByteArray} {y : List Ev} (h : lineQ x = some y) : y.length ≤ 1000 := by
  unfold lineQ lineW at h
  split at h
  · cases h
  · split at h
    · cases h
    · rename_i t _
      unfold lineT at h
      split at h
      · unfold pickQ at h
        split at h
        · injection h with h; subst h; exact (by decide : 1 ≤ 1000)
        · split at h
          · split at h
            · cases h
            · rename_i k hk
              split at h
              · cases h
              · injection h with h
                subst h
                rw [List.length_replicate]
                exact numQ_le hk
          · cases h
      · split at h
        · unfold callEv at h
          split at h
          · cases h
          · injection h with h; subst h; exact (by decide : 1 ≤ 1000)
        · split at h
          · unfold pumpQ at h
            split at h
            · cases h
            · split at h
              · cases h
              · unfold pumpN at h
                split at h
                · injection h with h; subst h; exact (by decide : 1 ≤ 1000)
                · cases h
          · cases h
theorem drop_at {l : List ByteArray} {k : Nat} (h : k < l.length) : l.drop k = l.getD k ⟨#[]⟩ :: l.drop (k + 1) := by
  rw [List.drop_eq_getElem_cons h, List.getD, List.getElem?_eq_getElem h]
  rfl
theorem skip_empty {x : ByteArray} (h : x.size = 0) : skipQ x = true := by unfold skipQ; rw [decide_eq_true h]; rfl
theorem skip_hash {x : ByteArray} (h : x.data.toList.getD 0 0 = 35) : skipQ x = true := by unfold skipQ; rw [decide_eq_true h]; simp
theorem skip_not {x : ByteArray} (h : ¬ x.size = 0) (h2 : ¬ x.data.toList.getD 0 0 = 35) : skipQ x = false := by unfold skipQ; rw [decide_eq_false h, decide_eq_false h2]; rfl
theorem first_byte {x : ByteArray} (h : 0 < x.size) : x.data.toList.getD 0 0 = x[0] := by
  have hl : 0 < x.data.toList.length := by rw [Array.length_toList]; exact h
  rw [List.getD, List.getElem?_eq_getElem hl]
  rfl
theorem empty_of {x : ByteArray} (h : x.size = 0) : x = ⟨#[]⟩ := ByteArray.ext (Array.eq_empty_of_size_eq_zero h)

/-- What stands while a script is read. -/
structure RdS (s : ByteArray) (words : List ByteArray) (w1 : World) (k : Nat) (out : List Ev) (l : List EvR) (A : Option Addr) (n c : Nat) (w : World) : Prop where
  len : l.length = n
  sz : out.length ≤ 16384
  red : readQ s = readL k (words.drop k) out
  own : w.ownsRow w1.heap.size 74 9 (.slice A n c) n (rows l)
  evs : EvsF w (fun b => Value.ownBlock (.slice A n c) ≠ some b) l out
  bel : Below w1.heap.size w1 w
theorem RdS.outs {s : ByteArray} {words : List ByteArray} {w1 w : World} {k n c : Nat} {out : List Ev} {l : List EvR} {A : Option Addr} (h : RdS s words w1 k out l A n c w) : out.length = n := h.evs.at_.len.symm.trans h.len
theorem RdS.next {s x : ByteArray} {words : List ByteArray} {w1 w : World} {k n c : Nat} {out : List Ev} {l : List EvR} {A : Option Addr} (h : RdS s words w1 k out l A n c w) (hk : k < words.length) (hx : words.getD k ⟨#[]⟩ = x) (hs : skipQ x = true) : RdS s words w1 (k + 1) out l A n c w :=
  ⟨h.len, h.sz, by rw [h.red, drop_at hk, hx, readL_skip hs], h.own, h.evs, h.bel⟩
theorem own_lt {w : World} {base n c b : Nat} {e : TypeId} {s : Nat} {A : Option Addr} {xs : List Value} (h : w.ownsRow base e s (.slice A n c) n xs) (hb : Value.ownBlock (.slice A n c) = some b) : b < w.heap.size := by
  rcases h.2 with ⟨hv, _⟩ | ⟨g, cap, cur, hv, _, hg, _⟩
  · rw [hv] at hb; cases hb
  · rw [hv] at hb
    injection hb with hb
    rw [← hb]
    exact (Array.getElem?_eq_some_iff.1 hg).1
/-- A line's events are put behind the others: ahead of the append. -/
theorem RdS.line {s : ByteArray} {words : List ByteArray} {w1 w w2 : World} {k n c m : Nat} {out y : List Ev} {l : List EvR} {A B : Option Addr} (h : RdS s words w1 k out l A n c w) (hb : Below w.heap.size w w2) (hy : EvsNew w2 (fun b => w.heap.size ≤ b) B m y) :
    ∃ r : List EvR, r.length = m ∧ Rd w2 B (rows r) ∧ w2.ownsRow w1.heap.size 74 9 (.slice A n c) n (rows l) ∧ EvsF w2 (fun b => Value.ownBlock (.slice A n c) ≠ some b) (l ++ r) (out ++ y) ∧ Below w1.heap.size w1 w2 := by
  obtain ⟨r, h1, h2, h3⟩ := hy
  refine ⟨r, h1, h2, own_below h.own hb, (h.evs.map (fun h => h.below hb)).app (h3.map (fun h => h.mono fun b _ hb2 e => ?_)), h.bel.trans (hb.mono h.bel.size)⟩
  · have := own_lt (A := A) (n := n) (c := c) ‹RdS _ _ _ _ _ _ _ _ _ _›.own e
    omega
/-- Behind the append. -/
theorem RdS.app {s x : ByteArray} {words : List ByteArray} {w1 w w2 w4 : World} {k n c m c4 : Nat} {out y : List Ev} {l r : List EvR} {A A4 : Option Addr} (h : RdS s words w1 k out l A n c w) (hk : k < words.length) (hx : words.getD k ⟨#[]⟩ = x) (hs : skipQ x = false) (hq : lineQ x = some y)
    (hym : y.length = m) (hc : ¬ (120 < x.size ∨ 16384 < out.length + m)) (hr : r.length = m) (he : EvsF w2 (fun b => Value.ownBlock (.slice A n c) ≠ some b) (l ++ r) (out ++ y)) (hb2 : Below w1.heap.size w1 w2)
    (ho : w4.ownsRow w1.heap.size 74 9 (.slice A4 (n + m) c4) (n + m) (rows (l ++ r))) (hg : w2.grownBy w4 (Value.ownBlock (.slice A n c))) (hb : Below w1.heap.size w2 w4) (hw : ∀ k, Value.ownBlock (.slice A4 (n + m) c4) = some k → Value.ownBlock (.slice A n c) = some k ∨ w2.heap.size ≤ k) :
    RdS s words w1 (k + 1) (out ++ y) (l ++ r) A4 (n + m) c4 w4 := by
  subst hym
  refine ⟨by rw [List.length_append, h.len, hr], by rw [List.length_append]; omega, ?_, ho, ?_, hb2.trans hb⟩
  · rw [h.red, drop_at hk, hx, readL_good hs (by rw [lineC_someS hq, if_neg hc]) hq]
  · refine (he.map (F := fun b => Value.ownBlock (.slice A n c) ≠ some b) (G := fun b => Value.ownBlock (.slice A n c) ≠ some b ∧ b < w2.heap.size) fun h => h.mono fun b hlt hb => ⟨hb, hlt⟩).map (fun h => ?_)
    exact (h.grown hg (fun b hb e => hb.1 e.symm)).mono fun b _ hb e => by
      rcases hw b e with e2 | e2
      · exact hb.1 e2
      · have := hb.2; omega

end Go.Proofs.YtalkllfgedacoaaGreatDoor
