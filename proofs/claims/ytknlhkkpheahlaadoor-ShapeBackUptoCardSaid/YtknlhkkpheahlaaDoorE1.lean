/- Errors: a number, or faults around it: how they lie; fault.At, In, errors.Is, walked. -/
import Derived.Test.YtknlhkkpheahlaaDoorRow
import Derived.Test.YtknlhkkpheahlaaDoorShelf
import Derived.Lib.AppendIntMem
import Derived.LaidEql
import Derived.Stop.Asserts
import Derived.RowKitTokens
import Derived.Deep.LoopGhost
import Derived.Lib.IfaceEq
namespace Go.Proofs.YtknlhkkpheahlaaDoor
open Go.RowKit Go.Sort Go.Extern.Stop Go.Stop Go.Extern

abbrev errnoV (e : Int) : Value := .iface 25 (.int .i64 e)
abbrev faultV (g : Nat) : Value := .iface 75 (.pointer (some ⟨g, 0, none⟩))

/-- The error v is faults, from without, around a number; their blocks lie from B on. -/
def Chain (B : Nat) (w : World) : Value → List (ByteArray × Int) → Int → Prop
  | v, [], e => v = errnoV e
  | v, (s, p) :: r, e => ∃ g v', v = faultV g ∧ B ≤ g ∧ Blk w g 79 [.string s, .int .i64 p, v'] ∧ Chain B w v' r e

theorem Chain.below {B : Nat} {w w' : World} (hb : Below w.heap.size w w') : ∀ {l : List (ByteArray × Int)} {v : Value} {e : Int}, Chain B w v l e → Chain B w' v l e
  | [], _, _, h => h
  | (_, _) :: _, _, _, ⟨g, v', h1, hB, h2, h3⟩ => ⟨g, v', h1, hB, h2.below hb h2.lt, Chain.below hb h3⟩

theorem Chain.mono {B B' : Nat} {w : World} (hB' : B' ≤ B) : ∀ {l : List (ByteArray × Int)} {v : Value} {e : Int}, Chain B w v l e → Chain B' w v l e
  | [], _, _, h => h
  | (_, _) :: _, _, _, ⟨g, v', h1, hB, h2, h3⟩ => ⟨g, v', h1, Nat.le_trans hB' hB, h2, Chain.mono hB' h3⟩

/-- What is written ahead of them leaves them alone. -/
theorem Chain.set_ {B : Nat} {w : World} {b i : Nat} (x : Value) (hb : b < B) : ∀ {l : List (ByteArray × Int)} {v : Value} {e : Int}, Chain B w v l e → Chain B (w.setCell ⟨b, i, none⟩ x) v l e
  | [], _, _, h => h
  | (_, _) :: _, _, _, ⟨g, v', h1, hB, h2, h3⟩ => ⟨g, v', h1, hB, (Below.heap_setCell w ⟨b, i, none⟩ x g (by show g ≠ b; omega)).trans h2, Chain.set_ x hb h3⟩

theorem Chain.iface {B : Nat} {w : World} {v : Value} {l : List (ByteArray × Int)} {e : Int} (h : Chain B w v l e) : ∃ t u, v = .iface t u := by
  cases l with
  | nil => exact ⟨_, _, h⟩
  | cons a r => obtain ⟨a1, a2⟩ := a; obtain ⟨g, v', h1, _⟩ := h; exact ⟨_, _, h1⟩

set_option maxHeartbeats 400000 in
theorem At_none (s : ByteArray) (p : Int) (w : World) :
    Calls Tryd.prog 30 #[.string s, .int .i64 p, .int .i64 0] w fun e w' => e = .returned .nilIface ∧ w' = w := by
  go_enter Tryd.func30, Tryd.ntmps30
  go_wp2
  go_ret
  exact ⟨rfl, rfl⟩

set_option maxHeartbeats 400000 in
theorem At_any (s : ByteArray) (p e : Int) (w : World) (he : e ≠ 0) :
    Calls Tryd.prog 30 #[.string s, .int .i64 p, .int .i64 e] w fun er w' => ∃ v, er = .returned v ∧ Chain w.heap.size w' v [(s, p)] e ∧ Below w.heap.size w w' := by
  have b1 : (e == 0) = false := by simpa using he
  go_enter Tryd.func30, Tryd.ntmps30
  go_wp2
  go_ret
  exact ⟨_, rfl, ⟨w.heap.size, _, rfl, Nat.le_refl _, Blk.new w _ [.string s, .int .i64 p, errnoV e], rfl⟩, (Below.refl _ _).alloc (Nat.le_refl _) _⟩

set_option maxHeartbeats 400000 in
theorem In_any (B : Nat) (s : ByteArray) (p : Int) (v : Value) (l : List (ByteArray × Int)) (e : Int) (w : World) (hB : B ≤ w.heap.size) (h : Chain B w v l e) :
    Calls Tryd.prog 29 #[.string s, .int .i64 p, v] w fun er w' => ∃ v, er = .returned v ∧ Chain B w' v ((s, p) :: l) e ∧ Below w.heap.size w w' := by
  have HC := Lib.hid h
  obtain ⟨t, u, rfl⟩ := h.iface
  clear h
  go_enter Tryd.func29, Tryd.ntmps29
  go_wp2
  go_ret
  exact ⟨_, rfl, ⟨w.heap.size, _, rfl, hB, Blk.new w _ [.string s, .int .i64 p, .iface t u], HC.out.below ((Below.refl _ _).alloc (Nat.le_refl _) _)⟩, (Below.refl _ _).alloc (Nat.le_refl _) _⟩

set_option maxHeartbeats 1000000 in
theorem Unwrap_any (g : Nat) (s : ByteArray) (p : Int) (v : Value) (w : World) (hb : Blk w g 79 [.string s, .int .i64 p, v]) :
    Calls Tryd.prog 172 #[.pointer (some ⟨g, 0, none⟩)] w fun e w' => e = .returned v ∧ w' = w := by
  have c2 : w.cell? ⟨g, 2, none⟩ = some v := hb.cell rfl
  clear hb
  go_enter Tryd.func172, Tryd.ntmps172
  go_wp2
  go_ret
  exact ⟨rfl, rfl⟩

theorem noIsE (v : Value) (xT : TypeId) (w : World) : (Instr.typeAssert (.iface 25 v) xT 171 true).run Tryd.prog w = .ok (.tuple #[.nilIface, .bool false]) w := run_typeAssert_lacksB Tryd.underlying171 (by kernel_rfl) (by kernel_rfl) v xT w
theorem noUnwrapE (v : Value) (xT : TypeId) (w : World) : (Instr.typeAssert (.iface 25 v) xT 151 true).run Tryd.prog w = .ok (.tuple #[.nilIface, .bool false]) w := run_typeAssert_lacksB Tryd.underlying151 (by kernel_rfl) (by kernel_rfl) v xT w
theorem noUnwrapsE (v : Value) (xT : TypeId) (w : World) : (Instr.typeAssert (.iface 25 v) xT 153 true).run Tryd.prog w = .ok (.tuple #[.nilIface, .bool false]) w := run_typeAssert_lacksB Tryd.underlying153 (by kernel_rfl) (by kernel_rfl) v xT w
theorem noIsF (v : Value) (xT : TypeId) (w : World) : (Instr.typeAssert (.iface 75 v) xT 171 true).run Tryd.prog w = .ok (.tuple #[.nilIface, .bool false]) w := run_typeAssert_lacksB Tryd.underlying171 (by kernel_rfl) (by kernel_rfl) v xT w
theorem hasUnwrapF (v : Value) (xT : TypeId) (w : World) : (Instr.typeAssert (.iface 75 v) xT 151 true).run Tryd.prog w = .ok (.tuple #[.iface 75 v, .bool true]) w := run_typeAssert_hasB Tryd.underlying151 (by kernel_rfl) v xT w

theorem mUnwrap (n : Nat) (v : Value) (w : World) : (Go.method (n + 1) 75 v "Unwrap").run Tryd.prog w = .ok (172, v) w := by kernel_rfl
theorem mErrorF (n : Nat) (v : Value) (w : World) : (Go.method (n + 1) 75 v "Error").run Tryd.prog w = .ok (171, v) w := by kernel_rfl
theorem mErrorE (n : Nat) (v : Value) (w : World) : (Go.method (n + 1) 25 v "Error").run Tryd.prog w = .ok (170, v) w := by kernel_rfl

set_option maxHeartbeats 4000000 in
set_option maxRecDepth 100000 in
theorem is_any (B : Nat) (v : Value) (l : List (ByteArray × Int)) (e c : Int) (w : World) (h : Chain B w v l e) :
    Calls Tryd.prog 97 #[v, errnoV c, .bool true] w fun er w' => er = .returned (.bool (decide (e = c))) ∧ w' = w := by
  have HC := Lib.hid h
  have nE := noIsE
  have uE := noUnwrapE
  have vE := noUnwrapsE
  have nF := noIsF
  have uF := hasUnwrapF
  have mU := mUnwrap
  clear h
  go_enter Tryd.func97, Tryd.ntmps97
  go_wp2
  go_loopg [0] (l.length + 1) (fun g x wr => ∃ r y, g = r.length + 1 ∧ x = y ∧ wr = w ∧ Chain B w y r e)
  case atStart => exact ⟨l, v, rfl, rfl, rfl, HC.out⟩
  case round =>
    obtain ⟨r, y, hg, hy, rfl, hc⟩ := hrel
    have HG := Lib.hid hg
    clear hg
    cases r with
    | nil =>
      rw [show y = errnoV e from hc] at hy
      subst hy
      clear HC hc
      have heq := fun w => Lib.run_eql_iface_int (P := Tryd.prog) w (t := 29) (tx := 25) (k := .i64) e c Tryd.underlying29 (by kernel_rfl) Tryd.underlying25
      by_cases hec : e = c
      · have b1 : (e == c) = true := by simp [hec]
        have HE := Lib.hid hec
        clear hec
        go_wp2
        go_ret
        exact ⟨ret_bool (by simp [HE.out]), rfl⟩
      · have b1 : (e == c) = false := by simp [hec]
        have HE := Lib.hid hec
        clear hec
        go_wp2
        go_ret
        exact ⟨ret_bool (by simp [HE.out]), rfl⟩
    | cons a r =>
      obtain ⟨s, p⟩ := a
      obtain ⟨g, v', hv, _, hb, hc⟩ := hc
      rw [hv] at hy
      subst hy hv
      have HB := Lib.hid hb
      have HC' := Lib.hid hc
      have hty := fun vx vy => run_eql_iface_types (P := Tryd.prog) 75 25 vx vy Tryd.underlying29 (by decide)
      clear hb hc HC
      go_wp2_with fail
      refine (Unwrap_any g s p v' _ HB.out).mono ?_
      rintro er w2 ⟨rfl, rfl⟩
      obtain ⟨t, u, rfl⟩ := HC'.out.iface
      go_wp2
      go_roundg (r.length + 1)
      case measure => rw [HG.out]; simp
      case rel => exact ⟨r, _, rfl, rfl, rfl, HC'.out⟩

def compX : Array Value → Sem Value := Extern.ReflectliteType.method fun t => do Extern.Rtype.noPackHeld "Comparable" t; pure (.bool (← typeInfo t).comparable)
theorem tTypeOf (v : Value) (w : World) : (Extern.ReflectliteType.typeOf #[.iface 25 v]).run Tryd.prog w = .ok (.iface 144 (.agg #[.pointer (some ⟨Tryd.prog.globals.size, 25, none⟩)])) w := by kernel_rfl
theorem tComparable (b : Nat) (hb : b = Tryd.prog.globals.size) (w : World) : (compX #[.agg #[.pointer (some ⟨b, 25, none⟩)]]).run Tryd.prog w = .ok (.bool true) w := by subst hb; kernel_rfl
theorem mComparable (n : Nat) (v : Value) (w : World) : (Go.method (n + 1) 144 v "Comparable").run Tryd.prog w = .ok (179, v) w := by kernel_rfl

set_option maxHeartbeats 4000000 in
set_option maxRecDepth 100000 in
theorem errorsIs_any (B : Nat) (v : Value) (l : List (ByteArray × Int)) (e c : Int) (w : World) (h : Chain B w v l e) :
    Calls Tryd.prog 72 #[v, errnoV c] w fun er w' => er = .returned (.bool (decide (e = c))) ∧ w' = w := by
  have HI := Lib.hid (is_any B v l e c w h)
  obtain ⟨t, u, rfl⟩ := h.iface
  have h8 := @run_callFunc_extern Tryd.prog 96 _ Extern.ReflectliteType.typeOf Tryd.func96 (by kernel_rfl) (by kernel_rfl) (by kernel_rfl) (by kernel_rfl)
  have h32 := @run_callFunc_extern Tryd.prog 179 _ compX Tryd.func179 (by kernel_rfl) (by kernel_rfl) (by kernel_rfl) (by kernel_rfl)
  have tT := tTypeOf
  have mR := mComparable
  clear h
  go_enter Tryd.func72, Tryd.ntmps72
  go_wp2_with fail
  rw [tComparable _ (by kernel_rfl)]
  go_wp2_with (first | (go_at_call 97; refine HI.out.mono ?_; rintro er w2 ⟨rfl, rfl⟩))
  go_ret
  exact ⟨rfl, rfl⟩

set_option maxHeartbeats 1000000 in
theorem FIs_any (B : Nat) (v : Value) (l : List (ByteArray × Int)) (e c : Int) (w : World) (h : Chain B w v l e) :
    Calls Tryd.prog 38 #[v, .int .i64 c] w fun er w' => er = .returned (.bool (decide (e = c))) ∧ w' = w := by
  have HI := Lib.hid (errorsIs_any B v l e c w h)
  obtain ⟨t, u, rfl⟩ := h.iface
  clear h
  go_enter Tryd.func38, Tryd.ntmps38
  go_wp2_with (first | (go_at_call 72; refine HI.out.mono ?_; rintro er w2 ⟨rfl, rfl⟩))
  go_ret
  exact ⟨rfl, rfl⟩

end Go.Proofs.YtknlhkkpheahlaaDoor
