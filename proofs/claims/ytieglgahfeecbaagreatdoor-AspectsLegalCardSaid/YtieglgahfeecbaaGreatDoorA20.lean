/- hexadecimal digits; what strconv.formatBits reads at base 16: walked. -/
import Derived.Test.YtieglgahfeecbaaGreatDoorA4
import Derived.Test.YtieglgahfeecbaaGreatDoorA19
import Derived.Test.YtieglgahfeecbaaGreatDoorA7
import Derived.Test.YtieglgahfeecbaaGreatDoorA1
import Derived.Laws.Bits64b
namespace Go.Proofs.YtieglgahfeecbaaGreatDoor
open Go.RowKit Go.Sort

/-- Cells are written one behind the other. -/
def setsAt (w : World) (g : Nat) : Nat → List Value → World
  | _, [] => w
  | o, v :: r => setsAt (w.setCell ⟨g, o, none⟩ v) g (o + 1) r
def setL (xs : List Value) : Nat → List Value → List Value
  | _, [] => xs
  | o, v :: r => setL (xs.set o v) (o + 1) r
theorem setL_eq : ∀ (vs xs : List Value) (o : Nat), o + vs.length ≤ xs.length → setL xs o vs = xs.take o ++ vs ++ xs.drop (o + vs.length)
  | [], xs, o, _ => by simp [setL]
  | v :: r, xs, o, h => by
    simp only [List.length_cons] at h
    rw [setL, setL_eq r (xs.set o v) (o + 1) (by simp; omega)]
    have h1 : (xs.set o v).take (o + 1) = xs.take o ++ [v] := by
      rw [List.take_succ_eq_append_getElem (by simp; omega), List.take_set_of_le (Nat.le_refl _)]
      simp
    have h2 : (xs.set o v).drop (o + 1 + r.length) = xs.drop (o + (v :: r).length) := by
      rw [List.drop_set_of_lt (by omega), List.length_cons]
      congr 1; omega
    rw [h1, h2]
    simp
theorem rows_whole {α : Type} [C : Cellful α] (l : List α) {k : Nat} (hk : k < l.length) (y : α) : setL (rows l) (k * C.s) (C.cells y) = rows (l.set k y) := by
  have hs : k * C.s + C.s ≤ l.length * C.s := by
    have := Nat.mul_le_mul_right C.s (show k + 1 ≤ l.length by omega)
    rw [Nat.succ_mul] at this; exact this
  rw [setL_eq _ _ _ (by rw [C.len, rows_length]; exact hs), C.len, rows_take, show k * C.s + C.s = (k + 1) * C.s by rw [Nat.succ_mul], rows_drop, List.set_eq_take_append_cons_drop, if_pos hk, rows_append, rows_cons, List.append_assoc]
theorem own_setsAt {base : Nat} {e : TypeId} {s n g c : Nat} (hn : 0 < n) : ∀ (vs : List Value) (w : World) (xs : List Value) (o : Nat), w.ownsRow base e s (.slice (some ⟨g, 0, none⟩) n c) n xs → o + vs.length ≤ n * s →
    (setsAt w g o vs).ownsRow base e s (.slice (some ⟨g, 0, none⟩) n c) n (setL xs o vs)
  | [], _, _, _, h, _ => h
  | v :: r, w, xs, o, h, hl => by
    simp only [List.length_cons] at hl
    exact own_setsAt hn r _ _ _ (own_put h hn o v (by omega) rfl) (by omega)
/-- The record number k is written. -/
theorem own_whole {α : Type} [C : Cellful α] {base : Nat} {w : World} {e : TypeId} {g n c : Nat} {l : List α} (h : w.ownsRow base e C.s (.slice (some ⟨g, 0, none⟩) n c) n (rows l)) (hl : l.length = n) {k : Nat} (hk : k < n) (y : α) :
    (setsAt w g (k * C.s) (C.cells y)).ownsRow base e C.s (.slice (some ⟨g, 0, none⟩) n c) n (rows (l.set k y)) := by
  rw [← rows_whole l (by omega) y]
  refine own_setsAt (by omega) _ _ _ _ h ?_
  rw [C.len]
  have := Nat.mul_le_mul_right C.s (show k + 1 ≤ n by omega)
  rw [Nat.succ_mul] at this; exact this
theorem below_setsAt {B : Nat} {a : World} {g : Nat} (hg : B ≤ g) : ∀ (vs : List Value) (w : World) (o : Nat), Below B a w → Below B a (setsAt w g o vs)
  | [], _, _, h => h
  | v :: r, _, o, h => below_setsAt hg r _ _ (h.setCell (p := ⟨g, o, none⟩) hg v)
theorem setsAt_other {g : Nat} : ∀ (vs : List Value) (w : World) (o k : Nat), k ≠ g → (setsAt w g o vs).heap[k]? = w.heap[k]?
  | [], _, _, _, _ => rfl
  | v :: r, w, o, k, h => (setsAt_other r _ _ k h).trans (Below.heap_setCell w ⟨g, o, none⟩ v k h)
theorem Blk.sets {w : World} {g k : Nat} {t : TypeId} {cs : List Value} (h : Blk w k t cs) (hne : k ≠ g) (o : Nat) (vs : List Value) : Blk (setsAt w g o vs) k t cs := (setsAt_other vs w o k hne).trans h
theorem own_setsTy {e e' : TypeId} {base s n g : Nat} {v : Value} {xs : List Value} (hne : e ≠ e') : ∀ (vs : List Value) (w : World) (cur : Array Value) (o : Nat), w.ownsRow base e s v n xs → w.heap[g]? = some (.cells cur e' (0, 0)) → (setsAt w g o vs).ownsRow base e s v n xs
  | [], _, _, _, h, _ => h
  | u :: r, w, cur, o, h, hg => by
    refine own_setsTy hne r _ (cur.setIfInBounds o u) _ (own_ty h hg hne o u) ?_
    simp [World.setCell, Array.getElem?_modify, hg]

end Go.Proofs.YtieglgahfeecbaaGreatDoor

namespace Go.Proofs.YtieglgahfeecbaaGreatDoor
open Go.RowKit Go.Sort
attribute [local go_sem ↓] Go.wp_at_zero Go.wp_at_succ

theorem CloneO_info : (Tryz.prog.info? 63).map (fun i => (i.zero, i.size, i.bytes)) = some (some (oprV Opr.none), 8, 72) := by kernel_rfl

set_option maxHeartbeats 1000000 in
set_option maxRecDepth 100000 in
theorem CloneO_any (A : Option Addr) (n c : Nat) (xs : List Value) (w : World) (hn : n * 72 ≤ 140737488355328) (hx : xs.length = n * 8) (h1 : ∀ u ∈ xs, u.oneCell' = true) (hR : Rd w A xs) :
    Calls Tryz.prog 101 #[.slice A n c] w (RetOwn 63 8 n xs w) := by
  have HR := Lib.hid hR
  have HX := Lib.hid hx
  have H1 := Lib.hid h1
  clear hR hx h1
  rcases A with _ | ad
  · have hxs : xs = [] := by
      rcases HR.out with h | ⟨b, o, h, _⟩
      · exact h
      · cases h
    obtain rfl : n = 0 := by have := HX.out; rw [hxs] at this; simp at this; omega
    have hnil := fun w => Lib.run_eql_slice_nil (P := Tryz.prog) w 55 63 none 0 c 0 0 Tryz.underlying55
    go_enter Tryz.func101, Tryz.ntmps101
    go_wp2
    go_ret
    exact ⟨none, 0, rfl, by rw [hxs]; exact own_nil _ _ _ _, Below.refl _ _⟩
  · have hnil := fun w => Lib.run_eql_slice_nil (P := Tryz.prog) w 55 63 (some ad) n c 0 0 Tryz.underlying55
    obtain ⟨i0, hi, hz0, hz1, hz2⟩ := info_parts CloneO_info
    have hnm : n ≤ maxLen := by unfold maxLen; omega
    have HI := Lib.hid (And.intro hi (And.intro hz0 (And.intro hz1 (And.intro hz2 hnm))))
    clear hi hz0 hz1 hz2 hnm
    go_enter Tryz.func101, Tryz.ntmps101
    go_wp2_with (at_builtin; refine wpList_append_own _ rfl (.tmp 5) (.tmp 6) 55 rfl w.heap.size 63 i0 (oprV Opr.none) 8 72 Tryz.underlying55 HI.out.1 HI.out.2.1 HI.out.2.2.1 HI.out.2.2.2.1 rfl (by decide) (.slice (some ⟨w.heap.size, 0, none⟩) 0 0) 0 [] rfl (own_empty w 63 8) ad n c xs rfl HX.out (rd_add (HR.out.alloc _)) H1.out (by have := HI.out.2.2.2.2; omega) (by omega) (by simp) ?_; intro v' w1 hown1 hg1 hnl1)
    go_ret
    have hown2 : w1.ownsRow w.heap.size 63 8 v' n xs := by simpa using hown1
    have hb := ((Below.refl _ w).alloc (Nat.le_refl _) _).trans ((own_grown (own_empty w 63 8) (by simp) hg1))
    rcases hown2.2 with ⟨rfl, h0⟩ | ⟨g, cap, cur, rfl, _⟩
    · subst h0
      exact ⟨none, 0, rfl, hown2, hb⟩
    · exact ⟨_, _, rfl, hown2, hb⟩


/-- How far a search has come, as a record: where the record and the threads' calls lie. -/
structure Str where
  (at_ : Int)
  (RA : Option Addr)
  (rn rc : Nat)
  (LA : Option Addr)
  (ln lc : Nat)
def Str.none : Str := ⟨0, .none, 0, 0, .none, 0, 0⟩
def Str.cells (s : Str) : List Value := [.int .i64 s.at_, .slice s.RA s.rn s.rc, .slice s.LA s.ln s.lc]
abbrev strV (s : Str) : Value := .agg #[.int .i64 s.at_, .slice s.RA s.rn s.rc, .slice s.LA s.ln s.lc]
instance : Cellful Str where
  cells := Str.cells
  s := 3
  dflt := Str.none
  len := fun _ => rfl
  one := fun a u hu => by
    simp only [Str.cells, List.mem_cons, List.not_mem_nil, or_false] at hu
    rcases hu with rfl | rfl | rfl <;> rfl
theorem CloneSt_info : (Tryz.prog.info? 57).map (fun i => (i.zero, i.size, i.bytes)) = some (some (strV Str.none), 3, 56) := by kernel_rfl

end Go.Proofs.YtieglgahfeecbaaGreatDoor

namespace Go.Proofs.YtieglgahfeecbaaGreatDoor
open Go.RowKit Go.Sort
attribute [local go_sem ↓] Go.wp_at_zero Go.wp_at_succ

theorem str_load {w : World} {g : Nat} {cs : List Value} {x : Str} (h : Blk w g 57 cs) (hc : cs = x.cells) : (loadVar 57 ⟨g, 0, none⟩).run Tryz.prog w = .ok (strV x) w := by
  subst hc
  exact run_loadVar_row (P := Tryz.prog) w g 57 57 _ (0, 0) _ h Tryz.underlying57 rfl (by kernel_rfl)

/-- Handed back: a state whose threads' calls lie in a row of their own. -/
def RetWith (s : Str) (L : List Opr) (w : World) (e : Ending) (w' : World) : Prop :=
  ∃ A c, e = .returned (strV ⟨s.at_, s.RA, s.rn, s.rc, A, s.ln, c⟩) ∧ w'.ownsRow w.heap.size 63 8 (.slice A s.ln c) s.ln (rows L) ∧ Below w.heap.size w w'

set_option maxHeartbeats 8000000 in
set_option maxRecDepth 100000 in
theorem hWith_any (s : Str) (L : List Opr) (t : Nat) (x : Opr) (w : World) (hl : L.length = s.ln) (hs : s.ln ≤ 4096) (ht : t < s.ln) (hR : Rd w s.LA (rows L)) :
    Calls Tryz.prog 69 #[strV s, .int .i64 t, oprV x] w (RetWith s (L.set t x) w) := by
  obtain ⟨b0, b1, b2, hb3⟩ := box3 w 57 63 57 s.cells x.cells [.int .i64 0, .slice none 0 0, .slice none 0 0]
  have HCO := Lib.hid (fun W (hb : Below w.heap.size w W) => CloneO_any s.LA s.ln s.lc (rows L) W (by omega) (by rw [rows_length, hl]; rfl) (rows_one _) (hR.below hb))
  have HY0 := Lib.hid b0
  have HY1 := Lib.hid b1
  have HY2 := Lib.hid b2
  have HBX := Lib.hid hb3
  have HLN := Lib.hid hl
  clear b0 b1 b2 hb3 hR hl
  obtain ⟨at_, RA, rn, rc, LA, ln, lc⟩ := s
  obtain ⟨⟨xk, xa, xv, xd, xA, xn, xc⟩, xs, xo, xp⟩ := x
  simp only [Str.cells, Opr.cells] at HY0 HY1 HY2 HBX HLN HCO hs ht
  unfold strV oprV
  simp only
  have t0 : (0 : Int) ≤ (t : Int) := by omega
  have t1 : (t : Int) < (ln : Int) := by omega
  go_enter Tryz.func69, Tryz.ntmps69
  go_upto_region 1 with fail
  generalize (((w.alloc (.cells #[.int .i64 at_, .slice RA rn rc, .slice LA ln lc] 57)).alloc (.cells #[.int .i64 xk, .int .i64 xa, .int .i64 xv, .bool xd, .slice xA xn xc, .int .i64 xs, .bool xo, .bool xp] 63)).alloc (.cells #[.int .i64 0, .slice none 0 0, .slice none 0 0] 57)) = W0 at *
  have y2 := HY0.out.cell (i := 2) rfl
  go_wp2_with (refine (HCO.out _ HBX.out).mono ?_
               rintro er w1 ⟨A1, c1, rfl, how1, hb1⟩
               have HX1 := Lib.hid (HY0.out.below hb1 HY0.out.lt)
               have HO1 := Lib.hid (HY1.out.below hb1 HY1.out.lt)
               have HZ1 := Lib.hid (HY2.out.below hb1 HY2.out.lt)
               have HB1 := Lib.hid hb1
               have HW1 := Lib.hid how1
               clear y2
               have x0 := HX1.out.cell (i := 0) rfl
               have x1 := HX1.out.cell (i := 1) rfl
               have x2 := HX1.out.cell (i := 2) rfl
               have zx2 := HX1.out.frozen 2
               have o0 := HO1.out.cell (i := 0) rfl
               have o1 := HO1.out.cell (i := 1) rfl
               have o2 := HO1.out.cell (i := 2) rfl
               have o3 := HO1.out.cell (i := 3) rfl
               have o4 := HO1.out.cell (i := 4) rfl
               have o5 := HO1.out.cell (i := 5) rfl
               have o6 := HO1.out.cell (i := 6) rfl
               have o7 := HO1.out.cell (i := 7) rfl
               have s0 := HZ1.out.cell (i := 0) rfl
               have zs0 := HZ1.out.frozen 0
               have s1 := HZ1.out.cell (i := 1) rfl
               have zs1 := HZ1.out.frozen 1
               have s2 := HZ1.out.cell (i := 2) rfl
               have zs2 := HZ1.out.frozen 2
               obtain ⟨g, hA, hg1, hg2⟩ := own_some how1 (by omega)
               subst hA
               obtain ⟨r0, r1, r2, r3, r4, r5, r6, r7⟩ := opr_cells (k := t) (x := L.getD t Opr.none) (own_cellAt how1) (by rw [HLN.out]; exact ht) rfl
               simp only [Nat.zero_add] at r0 r1 r2 r3 r4 r5 r6 r7
               have zr := own_free how1
               have n0 : g ≠ w.heap.size := by have := HY0.out.lt; omega
               have n0' := n0.symm
               have n1 : g ≠ w.heap.size + 1 := by have := HY1.out.lt; omega
               have n1' := n1.symm
               have n2 : g ≠ w.heap.size + 1 + 1 := by have := HY2.out.lt; omega
               have n2' := n2.symm
               clear how1 hb1)
  have hb0 : w.heap.size < W0.heap.size := HY0.out.lt
  have HZ3 := Lib.hid ((HZ1.out.other (g' := w.heap.size) (by omega) 2 (.slice (some ⟨g, 0, none⟩) ln c1)).sets (g := g) n2' (t * 8) (Opr.cells ⟨⟨xk, xa, xv, xd, xA, xn, xc⟩, xs, xo, xp⟩))
  have HW3 := Lib.hid (own_whole (own_low HW1.out hb0 2 (.slice (some ⟨g, 0, none⟩) ln c1)) HLN.out ht ⟨⟨xk, xa, xv, xd, xA, xn, xc⟩, xs, xo, xp⟩)
  have HB3 := Lib.hid (below_setsAt (g := g) (by omega) (Opr.cells ⟨⟨xk, xa, xv, xd, xA, xn, xc⟩, xs, xo, xp⟩) _ (t * 8) ((HBX.out.trans (HB1.out.mono HBX.out.size)).setCell (p := ⟨w.heap.size, 2, none⟩) (Nat.le_refl _) (.slice (some ⟨g, 0, none⟩) ln c1)))
  refine bodyPost_ret (v := strV ⟨at_, RA, rn, rc, some ⟨g, 0, none⟩, ln, c1⟩) (ret_cell (g := w.heap.size + 1 + 1) rfl rfl (str_load (x := ⟨at_, RA, rn, rc, some ⟨g, 0, none⟩, ln, c1⟩) (put3 HZ3.out) rfl)) rfl ?_
  exact ⟨some ⟨g, 0, none⟩, c1, rfl, own_lower (own_put3 HW3.out HZ3.out (by decide)) (by omega), below3 HB3.out (by omega)⟩

end Go.Proofs.YtieglgahfeecbaaGreatDoor

namespace Go.Proofs.YtieglgahfeecbaaGreatDoor
open Go.RowKit Go.Sort

theorem rows_rep {α : Type} [Cellful α] (x : α) (n j : Nat) (h : j < n * Cellful.s α) : (rows (List.replicate n x))[j]? = (Cellful.cells x)[j % Cellful.s α]? := by
  induction n generalizing j with
  | zero => simp at h
  | succ n ih =>
    rw [List.replicate_succ, rows_cons]
    have hl := Cellful.len x
    by_cases e : j < Cellful.s α
    · rw [List.getElem?_append_left (by omega), Nat.mod_eq_of_lt e]
    · rw [List.getElem?_append_right (by omega), hl, ih (j - Cellful.s α) (by rw [Nat.succ_mul] at h; omega)]
      rw [Nat.mod_eq_sub_mod (a := j) (by omega)]

theorem rows_made {α : Type} [Cellful α] (x : α) (n : Nat) (z : Array Value) (hz : z.toList = Cellful.cells x) (hs : 0 < Cellful.s α) : madeCells z (n * Cellful.s α) = (rows (List.replicate n x)).toArray := by
  have hl := Cellful.len x
  have hzs : z.size = Cellful.s α := by rw [← Array.length_toList, hz, hl]
  apply Array.ext
  · simp [size_madeCells, rows_length]
  · intro j h1 h2
    rw [size_madeCells] at h1
    have e := rows_rep x n j h1
    have hm : j % Cellful.s α < z.size := by rw [hzs]; exact Nat.mod_lt _ hs
    have e2 : (Cellful.cells x)[j % Cellful.s α]? = some z[j % Cellful.s α] := by
      rw [← hz, Array.getElem?_toList, Array.getElem?_eq_getElem hm]
    rw [e2] at e
    have e3 : (rows (List.replicate n x)).toArray[j] = z[j % Cellful.s α] := by
      have h3 : j < (rows (List.replicate n x)).length := by simpa using h2
      rw [List.getElem?_eq_getElem h3] at e
      exact Option.some.inj e
    rw [e3]
    unfold madeCells
    simp only [Array.getElem_map, Array.getElem_range, hzs]
    rw [getElem!_pos z _ hm]

theorem make_open (n : Nat) (hn : n ≤ 1048576) (w : World) :
    (Instr.makeSlice 55 (.int .i64 (n : Int)) (.int .i64 (n : Int))).run Tryz.prog w = .ok (.slice (some ⟨w.heap.size, 0, none⟩) n n) (w.alloc (.cells (rows (List.replicate n Opr.none)).toArray 63)) := by
  obtain ⟨i, hi, hz, hs, hb⟩ := info_parts CloneO_info
  have hr := run_make (P := Tryz.prog) w 55 63 i (oprV Opr.none) Tryz.underlying55 hi hz .i64 .i64 n n (by omega) (by omega) (by rw [hb]; omega) (by omega)
  simp only [Int.toNat_natCast] at hr
  rw [hr, hs]
  have := rows_made Opr.none n (oprV Opr.none).cells rfl (by decide)
  rw [← this]
  rfl

end Go.Proofs.YtieglgahfeecbaaGreatDoor

namespace Go.Proofs.YtieglgahfeecbaaGreatDoor
open Go.RowKit Go.Sort
attribute [local go_sem ↓] Go.wp_at_zero Go.wp_at_succ

/-- Notes, and their cases, how many soever. -/
structure NtsIn (w : World) (NA : Option Addr) (NS : List Nte) (PS : List NtP) : Prop where
  rd : Rd w NA (rows NS)
  len : PS.length = NS.length
  few : NS.length ≤ 4096
  is_ : ∀ k, k < NS.length → ∃ cs, ReqAt w (NS.getD k Nte.none).q cs ∧ PS.getD k NtP.none = (NS.getD k Nte.none).p cs
theorem NtsIn.below {w w' : World} {NA : Option Addr} {NS : List Nte} {PS : List NtP} (h : NtsIn w NA NS PS) (hb : Below w.heap.size w w') : NtsIn w' NA NS PS :=
  ⟨h.rd.below hb, h.len, h.few, fun k hk => by
    obtain ⟨cs, h1, h2⟩ := h.is_ k hk
    exact ⟨cs, h1.below hb, h2⟩⟩

theorem own_drw {w : World} {base : Nat} {e : TypeId} {s n : Nat} {v : Value} {xs : List Value} (h : w.ownsRow base e s v n xs) : w.drew.ownsRow base e s v n xs := h
theorem set_same {α : Type} (l : List α) (d : α) {t : Nat} (h : t < l.length) : l.set t (l.getD t d) = l := by
  apply List.ext_getElem (by simp)
  intro i h1 h2
  simp only [List.getElem_set]
  split
  · rename_i e; subst e; simp [List.getD, h]
  · rfl

set_option maxHeartbeats 4000000 in
set_option maxRecDepth 100000 in
theorem hCheck_no (c : Cfg) (v : Value) (w : World) (hc : CfgIn w c) (h : chkB c = false) :
    Calls Tryz.prog 9 #[cfgV c, v] w fun e w' => e = .returned (.int .i64 1) ∧ Below w.heap.size w w' := by
  have HC := Lib.hid hc
  have HCK := Lib.hid h
  clear hc h
  unfold cfgV
  go_enter Tryz.func9, Tryz.ntmps9
  go_wp2_with (go_at_call 20; refine (Check_no c _ (HC.out.alloc _) HCK.out).mono ?_; rintro e w1 ⟨rfl, hb1⟩; have HB1 := Lib.hid (((Below.refl w.heap.size w).alloc (Nat.le_refl _) _).trans (hb1.mono (by simp))); clear hb1)
  go_ret
  exact ⟨rfl, HB1.out⟩

set_option maxHeartbeats 16000000 in
set_option maxRecDepth 100000 in
theorem hCheck_yes (c : Cfg) (NA : Option Addr) (nc : Nat) (NS : List Nte) (PS : List NtP) (w : World) (hc : CfgIn w c) (h : chkB c = true) (hN : NtsIn w NA NS PS) :
    Calls Tryz.prog 9 #[cfgV c, .slice NA NS.length nc] w fun e w' => e = .returned (.int .i64 (checkS c PS)) ∧ Below w.heap.size w w' := by
  have HC := Lib.hid hc
  have HCH := Lib.hid h
  have HN := Lib.hid hN
  have hth := chk_kind h
  obtain ⟨t, ht⟩ : ∃ t : Nat, c.threads = t := ⟨_, (Int.toNat_of_nonneg (by omega)).symm⟩
  have t1 : 1 ≤ t := by omega
  have t2 : t ≤ 64 := by omega
  have hmk := fun W => make_open t (by omega) W
  have HTT := Lib.hid ht
  have hfew := hN.few
  have hplen := hN.len
  generalize hnn : NS.length = n at *
  have HNN := Lib.hid hnn
  clear hnn hc h hth hN ht
  go_enter Tryz.func9, Tryz.ntmps9
  unfold cfgV
  go_upto_region 2 with (first
    | (go_at_call 20
       refine (Check_ok c _ (HC.out.alloc _) HCH.out).mono ?_
       rintro e w1 ⟨rfl, hb1⟩
       obtain ⟨c0, c1, c2, c3, c4, c5, c6, c7, c8, c9, c10⟩ := ((BoxC.new w c).below hb1).all
       rw [HTT.out] at c1
       have HB1 := Lib.hid (((Below.refl _ _).alloc (Nat.le_refl _) _).trans (hb1.mono (alloc_size _ _)))
       have HLT1 := Lib.hid (show w.heap.size < w1.heap.size by have := hb1.size; simp at this; omega)
       clear hb1))
  have HMW := Lib.hid (blk_new (w := w1) (g := w1.heap.size) (cs := rows (List.replicate t Opr.none)) (t := 63) rfl)
  clear hmk
  go_loopg [5, 18] n (fun gg v i wr => ∃ (k : Nat) (K : List KnP) (L : List Opr), k ≤ n ∧ gg = n - k ∧ i = .int .i64 k ∧ v = .int .i64 (callsK PS k) ∧ knowK t PS k = some K ∧ KnL L K ∧ L.length = t ∧
      wr.ownsRow w1.heap.size 63 8 (.slice (some ⟨w1.heap.size, 0, none⟩) t t) t (rows L) ∧ Below w1.heap.size w1 wr)
  case atStart =>
    exact ⟨0, _, _, Nat.zero_le _, rfl, rfl, rfl, rfl, knL_start t, by simp, own_blk1 HMW.out (Nat.le_refl _) (by rw [rows_length, List.length_replicate]; rfl) (by unfold maxLen; omega), (Below.refl _ _).alloc (Nat.le_refl _) _⟩
  case round =>
    obtain ⟨k, K, L, hk, hg, rfl, rfl, hkn, hkl, hll, hrow, hbr⟩ := hrel
    have HG := Lib.hid hg
    have HKN := Lib.hid hkn
    have HKL := Lib.hid hkl
    have HLL := Lib.hid hll
    have HROW := Lib.hid hrow
    have HBR := Lib.hid hbr
    have HLTR := Lib.hid (own_lt hrow)
    clear hg hkn hkl hll hrow hbr HMW
    have hcl := callsK_le (ns := PS) k
    by_cases hlt : k < n
    · obtain ⟨cs, hcs, hps⟩ := HN.out.is_ k (by rw [HNN.out]; exact hlt)
      obtain ⟨bN, oN, hNA, hbN, hcN⟩ := HN.out.rd.at_ (by rw [rows_length, HNN.out]; exact Nat.mul_pos (by omega) (by decide))
      have hbw : Below w.heap.size w wr := HB1.out.trans (HBR.out.mono HB1.out.size)
      have HRQ := Lib.hid (hcs.below hbw)
      have HPS := Lib.hid hps
      have hxc := note_cells (k := k) (x := NS.getD k Nte.none) (fun j v hj => by rw [hbw.cell (p := ⟨bN, oN + j, none⟩) hbN]; exact hcN j v hj) (by rw [HNN.out]; exact hlt) rfl
      generalize hx : NS.getD k Nte.none = x at *
      have HBAD : RowKit.Hid (noteOk K (x.p cs) = false → checkS c PS = 3) := Lib.hid (fun h => checkS_bad HCH.out (by rw [hplen]; exact hlt) (by rw [HTT.out, Int.toNat_natCast]; exact HKN.out) (by rw [hps]; exact h))
      have HTH := Lib.hid ((BoxC.new w c))
      have cth : wr.cell? ⟨w.heap.size, 1, none⟩ = some (.int .i64 t) := by rw [HBR.out.cell (p := ⟨w.heap.size, 1, none⟩) HLT1.out]; exact c1
      have HBW := Lib.hid hbw
      clear hcs hps hcN hbw HTH hx
      subst hNA
      have q0 : (0 : Int) ≤ (k : Int) := by omega
      have q1 : (k : Int) < (n : Int) := by omega
      obtain ⟨e0, e1, e2, e3, e4, e5, e6, e7, e8, e9, e10, e11, e12⟩ := hxc
      have HBOX : RowKit.Hid (Blk (wr.alloc (nbox x)) wr.heap.size 44 x.cells) := Lib.hid (Blk.new wr 44 x.cells)
      have HBA := Lib.hid ((Below.refl wr.heap.size wr).alloc (Nat.le_refl _) (nbox x))
      have hlr : w.heap.size < wr.heap.size := by have := HLT1.out; have := HBR.out.size; omega
      clear c0 c1 c2 c3 c4 c5 c6 c7 c8 c9 c10
      go_upto_region 8 with (fail)
      have b1 := HBOX.out.cell (i := 1) rfl
      have b2 := HBOX.out.cell (i := 2) rfl
      have cth2 : (wr.alloc (nbox x)).cell? ⟨w.heap.size, 1, none⟩ = some (.int .i64 t) := by rw [HBA.out.cell (p := ⟨w.heap.size, 1, none⟩) hlr]; exact cth
      have HBE := Lib.hid (HBW.out.trans (HBA.out.mono HBW.out.size))
      have hlo : wr.heap.size < (wr.alloc (nbox x)).heap.size := by simp
      clear e0 e1 e2 e3 e4 e5 e6 e7 e8 e9 e10 e11 e12 cth
      generalize (wr.alloc (nbox x)) = W1 at *
      by_cases a1 : x.thread < 0
      · have d1 : decide (x.thread < 0) = true := decide_eq_true a1
        have HNO : RowKit.Hid (noteOk K (x.p cs) = false) := Lib.hid (by
          unfold noteOk; rw [decide_eq_false (by show ¬ inL K.length x.thread; unfold inL; omega)]; rfl)
        clear a1
        go_quiet (fail)
        go_wp2_with fail
        go_ret
        exact ⟨ret_int (HBAD.out HNO.out).symm, Below.drewN' HBE.out _⟩
      have d1 : decide (x.thread < 0) = false := decide_eq_false a1
      by_cases a2 : x.thread ≥ (t : Int)
      · have d2 : decide ((t : Int) ≤ x.thread) = true := decide_eq_true a2
        have HNO : RowKit.Hid (noteOk K (x.p cs) = false) := Lib.hid (by
          unfold noteOk; rw [decide_eq_false (by show ¬ inL K.length x.thread; have := HKL.out.len; have := HLL.out; unfold inL; omega)]; rfl)
        clear a1 a2
        go_quiet (fail)
        go_wp2_with fail
        go_ret
        exact ⟨ret_int (HBAD.out HNO.out).symm, Below.drewN' HBE.out _⟩
      have d2 : decide ((t : Int) ≤ x.thread) = false := decide_eq_false a2
      by_cases a3 : x.seq < 0
      · have d3 : decide (x.seq < 0) = true := decide_eq_true a3
        have HNO : RowKit.Hid (noteOk K (x.p cs) = false) := Lib.hid (by
          unfold noteOk; rw [show inB (x.p cs).seq 0 1048575 = false by show inB x.seq 0 1048575 = false; unfold inB; rw [decide_eq_false (by omega)]; rfl]; simp)
        clear a1 a2 a3
        go_quiet (fail)
        go_wp2_with fail
        go_ret
        exact ⟨ret_int (HBAD.out HNO.out).symm, Below.drewN' HBE.out _⟩
      have d3 : decide (x.seq < 0) = false := decide_eq_false a3
      by_cases a4 : 1048575 < x.seq
      · have d4 : decide (1048575 < x.seq) = true := decide_eq_true a4
        have HNO : RowKit.Hid (noteOk K (x.p cs) = false) := Lib.hid (by
          unfold noteOk; rw [show inB (x.p cs).seq 0 1048575 = false by show inB x.seq 0 1048575 = false; unfold inB; simp; omega]; simp)
        clear a1 a2 a3 a4
        go_quiet (fail)
        go_wp2_with fail
        go_ret
        exact ⟨ret_int (HBAD.out HNO.out).symm, Below.drewN' HBE.out _⟩
      have d4 : decide (1048575 < x.seq) = false := decide_eq_false a4
      obtain ⟨u, hu⟩ : ∃ u : Nat, x.thread = u := ⟨_, (Int.toNat_of_nonneg (by omega)).symm⟩
      have hul : u < t := by omega
      have HFO := Lib.hid (fun W (hb : Below wr.heap.size wr W) => hFollows_any (L.getD u Opr.none) x cs W (HRQ.out.below hb))
      unfold oprV nteV at HFO
      simp only [hu] at HFO
      have HFE : RowKit.Hid (folB (L.getD u Opr.none) x (fitsQ (x.q.p cs)) = followsB (K.getD u KnP.none) (x.p cs)) := Lib.hid ((HKL.out.is_ u (by rw [HLL.out]; exact hul)).1.follows x cs)
      have HOKE : RowKit.Hid (noteOk K (x.p cs) = followsB (K.getD u KnP.none) (x.p cs)) := Lib.hid (by
        unfold noteOk
        rw [decide_eq_true (show inL K.length (x.p cs).thread by show inL K.length x.thread; have := HKL.out.len; have := HLL.out; unfold inL; omega), show inB (x.p cs).seq 0 1048575 = true by show inB x.seq 0 1048575 = true; unfold inB; simp; omega, show (x.p cs).thread.toNat = u by show x.thread.toNat = u; omega]
        rfl)
      have HNX : RowKit.Hid (noteOk K (x.p cs) = true → knowK t PS (k + 1) = some (nextK K (x.p cs)) ∧ KnL (L.set u (stepO (L.getD u Opr.none) x)) (nextK K (x.p cs))) := Lib.hid (fun h => by
        have h1 := knowK_next HKN.out (by rw [HPS.out]; exact h)
        rw [HPS.out] at h1
        have h2 := HKL.out.next h
        rw [show x.thread.toNat = u by omega] at h2
        exact ⟨h1, h2⟩)
      have HCN : RowKit.Hid (callsK PS (k + 1) = callsK PS k + if x.kind = 1 then 1 else 0) := Lib.hid (by rw [callsK, HPS.out]; rfl)
      rw [HFE.out] at HFO
      rw [hu] at b1 d1 d2
      have d5 : decide (t ≤ u) = false := decide_eq_false (by omega)
      have HROW1 := Lib.hid (own_below HROW.out HBA.out)
      obtain ⟨r0, r1, r2, r3, r4, r5, r6, r7⟩ := opr_cells (k := u) (x := L.getD u Opr.none) (own_cellAt (own_below HROW.out HBA.out)) (by rw [HLL.out]; exact hul) rfl
      simp only [Nat.zero_add] at r0 r1 r2 r3 r4 r5 r6 r7
      generalize hFB : followsB (K.getD u KnP.none) (x.p cs) = FB at *
      clear hFB HFE
      have u0 : (0 : Int) ≤ (u : Int) := by omega
      have u1 : (u : Int) < (t : Int) := by omega
      have b0 := HBOX.out.cell (i := 0) rfl
      have b3 := HBOX.out.cell (i := 3) rfl
      have b4 := HBOX.out.cell (i := 4) rfl
      have b5 := HBOX.out.cell (i := 5) rfl
      have b6 := HBOX.out.cell (i := 6) rfl
      have b7 := HBOX.out.cell (i := 7) rfl
      have b8 := HBOX.out.cell (i := 8) rfl
      have b9 := HBOX.out.cell (i := 9) rfl
      have b10 := HBOX.out.cell (i := 10) rfl
      have b11 := HBOX.out.cell (i := 11) rfl
      have b12 := HBOX.out.cell (i := 12) rfl
      have hu2 := hu
      have hu2 := hu
      have hu2 := hu
      have hu2 := hu
      have hu2 := hu
      have hu2 := hu
      have hu2 := hu
      clear a1 a2 a3 a4 hu
      have hlw : w.heap.size < W1.heap.size := by omega
      have hll1 : w1.heap.size < W1.heap.size := by have := HLTR.out; omega
      cases FB
      · go_region_held3 (fun w' => w'.cell? ⟨wr.heap.size, 0, none⟩ = some (.int .i64 x.kind) ∧ w'.cell? ⟨wr.heap.size, 1, none⟩ = some (.int .i64 (u : Int)) ∧ w'.cell? ⟨wr.heap.size, 2, none⟩ = some (.int .i64 x.seq) ∧ w'.cell? ⟨wr.heap.size, 3, none⟩ = some (.int .i64 x.time) ∧ w'.cell? ⟨wr.heap.size, 4, none⟩ = some (.int .i64 x.rkind) ∧ w'.cell? ⟨wr.heap.size, 5, none⟩ = some (.int .i64 x.rarg) ∧ w'.cell? ⟨wr.heap.size, 6, none⟩ = some (.int .i64 x.rvalue) ∧ w'.cell? ⟨wr.heap.size, 7, none⟩ = some (.bool x.rdef) ∧ w'.cell? ⟨wr.heap.size, 8, none⟩ = some (.slice x.ca x.cl x.cc) ∧ w'.cell? ⟨wr.heap.size, 9, none⟩ = some (.int .i64 x.qseq) ∧ w'.cell? ⟨wr.heap.size, 10, none⟩ = some (.int .i64 x.qcase) ∧ w'.cell? ⟨wr.heap.size, 11, none⟩ = some (.int .i64 x.qcode) ∧ w'.cell? ⟨wr.heap.size, 12, none⟩ = some (.int .i64 x.qvalue) ∧ w'.cell? ⟨w.heap.size, 1, none⟩ = some (.int .i64 (t : Int)) ∧ w'.cell? ⟨w1.heap.size, u * 8, none⟩ = some (.int .i64 (L.getD u Opr.none).q.kind) ∧ w'.cell? ⟨w1.heap.size, u * 8 + 1, none⟩ = some (.int .i64 (L.getD u Opr.none).q.arg) ∧ w'.cell? ⟨w1.heap.size, u * 8 + 2, none⟩ = some (.int .i64 (L.getD u Opr.none).q.value) ∧ w'.cell? ⟨w1.heap.size, u * 8 + 3, none⟩ = some (.bool (L.getD u Opr.none).q.dflt) ∧ w'.cell? ⟨w1.heap.size, u * 8 + 4, none⟩ = some (.slice (L.getD u Opr.none).q.A (L.getD u Opr.none).q.n (L.getD u Opr.none).q.c) ∧ w'.cell? ⟨w1.heap.size, u * 8 + 5, none⟩ = some (.int .i64 (L.getD u Opr.none).seq) ∧ w'.cell? ⟨w1.heap.size, u * 8 + 6, none⟩ = some (.bool (L.getD u Opr.none).on) ∧ w'.cell? ⟨w1.heap.size, u * 8 + 7, none⟩ = some (.bool (L.getD u Opr.none).applied)) (first | go_keep | (simp only [hk1, hk2, hk3]; go_keep)) (first
          | (go_at_call 21
             refine (HFO.out _ ?_).mono ?_
             · first | exact HBA.out | exact HBA.out.drew
             rintro er w5 ⟨rfl, hb5'⟩
             have hb5 : Below W1.heap.size W1 w5 := ⟨hb5'.os, hb5'.tape, hb5'.output, hb5'.size, hb5'.block⟩
             have hk1 := fun o => hb5.cell (p := ⟨wr.heap.size, o, none⟩) hlo
             have hk2 := fun o => hb5.cell (p := ⟨w.heap.size, o, none⟩) hlw
             have hk3 := fun o => hb5.cell (p := ⟨w1.heap.size, o, none⟩) hll1))
        have HB5 := Lib.hid (HBE.out.trans (hb5.mono HBE.out.size))
        clear hk1 hk2 hk3 hb5 hb5'
        go_wp2_with fail
        go_ret
        exact ⟨ret_int (HBAD.out HOKE.out).symm, HB5.out⟩
      · go_region_held3 (fun w' => w'.cell? ⟨wr.heap.size, 0, none⟩ = some (.int .i64 x.kind) ∧ w'.cell? ⟨wr.heap.size, 1, none⟩ = some (.int .i64 (u : Int)) ∧ w'.cell? ⟨wr.heap.size, 2, none⟩ = some (.int .i64 x.seq) ∧ w'.cell? ⟨wr.heap.size, 3, none⟩ = some (.int .i64 x.time) ∧ w'.cell? ⟨wr.heap.size, 4, none⟩ = some (.int .i64 x.rkind) ∧ w'.cell? ⟨wr.heap.size, 5, none⟩ = some (.int .i64 x.rarg) ∧ w'.cell? ⟨wr.heap.size, 6, none⟩ = some (.int .i64 x.rvalue) ∧ w'.cell? ⟨wr.heap.size, 7, none⟩ = some (.bool x.rdef) ∧ w'.cell? ⟨wr.heap.size, 8, none⟩ = some (.slice x.ca x.cl x.cc) ∧ w'.cell? ⟨wr.heap.size, 9, none⟩ = some (.int .i64 x.qseq) ∧ w'.cell? ⟨wr.heap.size, 10, none⟩ = some (.int .i64 x.qcase) ∧ w'.cell? ⟨wr.heap.size, 11, none⟩ = some (.int .i64 x.qcode) ∧ w'.cell? ⟨wr.heap.size, 12, none⟩ = some (.int .i64 x.qvalue) ∧ w'.cell? ⟨w.heap.size, 1, none⟩ = some (.int .i64 (t : Int)) ∧ w'.cell? ⟨w1.heap.size, u * 8, none⟩ = some (.int .i64 (L.getD u Opr.none).q.kind) ∧ w'.cell? ⟨w1.heap.size, u * 8 + 1, none⟩ = some (.int .i64 (L.getD u Opr.none).q.arg) ∧ w'.cell? ⟨w1.heap.size, u * 8 + 2, none⟩ = some (.int .i64 (L.getD u Opr.none).q.value) ∧ w'.cell? ⟨w1.heap.size, u * 8 + 3, none⟩ = some (.bool (L.getD u Opr.none).q.dflt) ∧ w'.cell? ⟨w1.heap.size, u * 8 + 4, none⟩ = some (.slice (L.getD u Opr.none).q.A (L.getD u Opr.none).q.n (L.getD u Opr.none).q.c) ∧ w'.cell? ⟨w1.heap.size, u * 8 + 5, none⟩ = some (.int .i64 (L.getD u Opr.none).seq) ∧ w'.cell? ⟨w1.heap.size, u * 8 + 6, none⟩ = some (.bool (L.getD u Opr.none).on) ∧ w'.cell? ⟨w1.heap.size, u * 8 + 7, none⟩ = some (.bool (L.getD u Opr.none).applied)) (first | go_keep | (simp only [hk1, hk2, hk3]; go_keep)) (first
          | (go_at_call 21
             refine (HFO.out _ ?_).mono ?_
             · first | exact HBA.out | exact HBA.out.drew
             rintro er w5 ⟨rfl, hb5'⟩
             have hb5 : Below W1.heap.size W1 w5 := ⟨hb5'.os, hb5'.tape, hb5'.output, hb5'.size, hb5'.block⟩
             have hk1 := fun o => hb5.cell (p := ⟨wr.heap.size, o, none⟩) hlo
             have hk2 := fun o => hb5.cell (p := ⟨w.heap.size, o, none⟩) hlw
             have hk3 := fun o => hb5.cell (p := ⟨w1.heap.size, o, none⟩) hll1))
        have HB5 := Lib.hid ((HBR.out.trans (HBA.out.mono HBR.out.size)).trans (hb5.mono (by omega)))
        have HROW5 := Lib.hid (own_below HROW1.out hb5)
        have HBOX5 := Lib.hid (HBOX.out.below hb5 hlo)
        have HX := Lib.hid (HNX.out HOKE.out)
        clear hk1 hk2 hk3 hb5 hb5' r0 r1 r2 r3 r4 r5 r6 r7 b0 b1 b2 b3 b4 b5 b6 b7 b8 b9 b10 b11 b12 cth2
        have b0 := HBOX5.out.cell (i := 0) rfl
        have b1 := HBOX5.out.cell (i := 1) rfl
        have b2 := HBOX5.out.cell (i := 2) rfl
        have b3 := HBOX5.out.cell (i := 3) rfl
        have b4 := HBOX5.out.cell (i := 4) rfl
        have b5 := HBOX5.out.cell (i := 5) rfl
        have b6 := HBOX5.out.cell (i := 6) rfl
        have b7 := HBOX5.out.cell (i := 7) rfl
        have b8 := HBOX5.out.cell (i := 8) rfl
        obtain ⟨r0, r1, r2, r3, r4, r5, r6, r7⟩ := opr_cells (k := u) (x := L.getD u Opr.none) (own_cellAt HROW5.out) (by rw [HLL.out]; exact hul) rfl
        simp only [Nat.zero_add] at r0 r1 r2 r3 r4 r5 r6 r7
        have zr := own_free HROW5.out
        rw [hu2] at b1
        by_cases k1 : x.kind = 1
        · have g1 : (x.kind == 1) = true := by simp [k1]
          have HST : RowKit.Hid (stepO (L.getD u Opr.none) x = ⟨x.q, if x.seq < (L.getD u Opr.none).seq then (L.getD u Opr.none).seq else x.seq, true, x.seq == 0⟩) := Lib.hid (by
            unfold stepO
            rw [if_pos k1, show max x.seq (L.getD u Opr.none).seq = if x.seq < (L.getD u Opr.none).seq then (L.getD u Opr.none).seq else x.seq by rw [Int.max_def]; split <;> split <;> omega]
            rfl)
          have HCK : RowKit.Hid (callsK PS (k + 1) = callsK PS k + 1) := Lib.hid (by rw [HCN.out, if_pos k1])
          clear k1
          go_upto_region 14 with (fail)
          go_region
          have HOW := Lib.hid (own_whole HROW5.out HLL.out hul ⟨x.q, if x.seq < (L.getD u Opr.none).seq then (L.getD u Opr.none).seq else x.seq, true, x.seq == 0⟩)
          have HBN : RowKit.Hid (Below w1.heap.size w1 ((((((((w5.setCell ⟨w1.heap.size, u * 8, none⟩ (.int .i64 x.rkind)).setCell ⟨w1.heap.size, u * 8 + 1, none⟩ (.int .i64 x.rarg)).setCell ⟨w1.heap.size, u * 8 + 2, none⟩ (.int .i64 x.rvalue)).setCell ⟨w1.heap.size, u * 8 + 3, none⟩ (.bool x.rdef)).setCell ⟨w1.heap.size, u * 8 + 4, none⟩ (.slice x.ca x.cl x.cc)).setCell ⟨w1.heap.size, u * 8 + 5, none⟩ (.int .i64 (if x.seq < (L[u]?.getD Opr.none).seq then (L[u]?.getD Opr.none).seq else x.seq))).setCell ⟨w1.heap.size, u * 8 + 6, none⟩ (.bool true)).setCell ⟨w1.heap.size, u * 8 + 7, none⟩ (.bool (x.seq == 0))).drew) := Lib.hid ((below_setsAt (g := w1.heap.size) (Nat.le_refl _) (Opr.cells ⟨x.q, (if x.seq < (L[u]?.getD Opr.none).seq then (L[u]?.getD Opr.none).seq else x.seq), true, x.seq == 0⟩) _ (u * 8) HB5.out).drew)
          replace HOW : RowKit.Hid (((((((((w5.setCell ⟨w1.heap.size, u * 8, none⟩ (.int .i64 x.rkind)).setCell ⟨w1.heap.size, u * 8 + 1, none⟩ (.int .i64 x.rarg)).setCell ⟨w1.heap.size, u * 8 + 2, none⟩ (.int .i64 x.rvalue)).setCell ⟨w1.heap.size, u * 8 + 3, none⟩ (.bool x.rdef)).setCell ⟨w1.heap.size, u * 8 + 4, none⟩ (.slice x.ca x.cl x.cc)).setCell ⟨w1.heap.size, u * 8 + 5, none⟩ (.int .i64 (if x.seq < (L[u]?.getD Opr.none).seq then (L[u]?.getD Opr.none).seq else x.seq))).setCell ⟨w1.heap.size, u * 8 + 6, none⟩ (.bool true)).setCell ⟨w1.heap.size, u * 8 + 7, none⟩ (.bool (x.seq == 0))).drew.ownsRow w1.heap.size 63 8 (.slice (some ⟨w1.heap.size, 0, none⟩) t t) t (rows (L.set u ⟨x.q, if x.seq < (L.getD u Opr.none).seq then (L.getD u Opr.none).seq else x.seq, true, x.seq == 0⟩))) := Lib.hid (own_drw HOW.out)
          clear r0 r1 r2 r3 r4 r5 r6 r7 b0 b1 b2 b3 b4 b5 b6 b7 b8 zr
          generalize ((((((((w5.setCell ⟨w1.heap.size, u * 8, none⟩ (.int .i64 x.rkind)).setCell ⟨w1.heap.size, u * 8 + 1, none⟩ (.int .i64 x.rarg)).setCell ⟨w1.heap.size, u * 8 + 2, none⟩ (.int .i64 x.rvalue)).setCell ⟨w1.heap.size, u * 8 + 3, none⟩ (.bool x.rdef)).setCell ⟨w1.heap.size, u * 8 + 4, none⟩ (.slice x.ca x.cl x.cc)).setCell ⟨w1.heap.size, u * 8 + 5, none⟩ (.int .i64 (if x.seq < (L[u]?.getD Opr.none).seq then (L[u]?.getD Opr.none).seq else x.seq))).setCell ⟨w1.heap.size, u * 8 + 6, none⟩ (.bool true)).setCell ⟨w1.heap.size, u * 8 + 7, none⟩ (.bool (x.seq == 0))).drew = W6 at *
          go_wp2_with fail
          all_goals
            go_roundg (n - (k + 1))
            case measure => rw [HG.out]; omega
            case rel => exact ⟨k + 1, nextK K (x.p cs), L.set u (stepO (L.getD u Opr.none) x), by omega, rfl, by go_num, by rw [HCK.out]; go_num, HX.out.1, HX.out.2, by rw [List.length_set]; exact HLL.out, by rw [HST.out]; exact HOW.out, HBN.out⟩
        · have g1 : (x.kind == 1) = false := by simp [k1]
          have HCK : RowKit.Hid (callsK PS (k + 1) = callsK PS k) := Lib.hid (by rw [HCN.out, if_neg k1]; rfl)
          by_cases k3 : x.kind = 3
          · have g3 : (x.kind == 3) = true := by simp [k3]
            have HST : RowKit.Hid (stepO (L.getD u Opr.none) x = ⟨(L.getD u Opr.none).q, (L.getD u Opr.none).seq, false, (L.getD u Opr.none).applied⟩) := Lib.hid (by unfold stepO; rw [if_neg k1, if_pos k3])
            clear k1 k3
            go_wp2_with fail
            go_roundg (n - (k + 1))
            case measure => rw [HG.out]; omega
            case rel =>
              refine ⟨k + 1, nextK K (x.p cs), L.set u (stepO (L.getD u Opr.none) x), by omega, rfl, by go_num, by rw [HCK.out], HX.out.1, HX.out.2, by rw [List.length_set]; exact HLL.out, ?_, HB5.out.setCell (p := ⟨w1.heap.size, _, none⟩) (Nat.le_refl _) _⟩
              rw [HST.out]
              exact own_put HROW5.out (by omega) (u * 8 + 6) (.bool false) (by omega) (rows_set (l := L) (k := u) (by rw [HLL.out]; exact hul) 6 (.bool false) (⟨(L.getD u Opr.none).q, (L.getD u Opr.none).seq, false, (L.getD u Opr.none).applied⟩ : Opr) (by decide) rfl)
          · have g3 : (x.kind == 3) = false := by simp [k3]
            have HST : RowKit.Hid (stepO (L.getD u Opr.none) x = L.getD u Opr.none) := Lib.hid (by unfold stepO; rw [if_neg k1, if_neg k3])
            clear k1 k3
            go_wp2_with fail
            go_roundg (n - (k + 1))
            case measure => rw [HG.out]; omega
            case rel =>
              refine ⟨k + 1, nextK K (x.p cs), L.set u (stepO (L.getD u Opr.none) x), by omega, rfl, by go_num, by rw [HCK.out], HX.out.1, HX.out.2, by rw [List.length_set]; exact HLL.out, ?_, HB5.out⟩
              rw [HST.out, set_same L Opr.none (by rw [HLL.out]; exact hul)]
              exact HROW5.out
    · obtain rfl : k = n := by omega
      have HCE : RowKit.Hid (checkS c PS = if 8 < callsK PS k then 4 else 0) := Lib.hid (by rw [checkS_end HCH.out (by rw [hplen, HTT.out, Int.toNat_natCast]; exact HKN.out), hplen])
      have HBE := Lib.hid (HB1.out.trans (HBR.out.mono HB1.out.size))
      by_cases h8 : 8 < callsK PS k
      · rw [if_pos h8] at HCE
        have g8 : (8 : Int) < (callsK PS k : Int) := by omega
        go_wp2_with fail
        go_ret
        exact ⟨ret_int HCE.out.symm, HBE.out⟩
      · rw [if_neg h8] at HCE
        have g8 : ¬ (8 : Int) < (callsK PS k : Int) := by omega
        go_wp2_with fail
        go_ret
        exact ⟨ret_int HCE.out.symm, HBE.out⟩

end Go.Proofs.YtieglgahfeecbaaGreatDoor

namespace Go.Proofs.YtieglgahfeecbaaGreatDoor
open Go.RowKit Go.Sort Go.Lib

/-- The one cell of the library's table that is read for base 16. -/
def Tz16 (w : World) : Prop := 2 < w.heap.size ∧ w.cell? ⟨2, 15, none⟩ = some (.int .u8 4)
theorem Tz16.below {w w' : World} (h : Tz16 w) (hb : Below w.heap.size w w') : Tz16 w' := ⟨Nat.lt_of_lt_of_le h.1 hb.size, by rw [hb.cell (p := ⟨2, 15, none⟩) h.1]; exact h.2⟩

def hexd (d : Nat) : UInt8 := if d < 10 then UInt8.ofNat (48 + d) else UInt8.ofNat (87 + d)
def hexDigits (u : Nat) : List UInt8 := if _h : u < 16 then [hexd u] else hexDigits (u / 16) ++ [hexd (u % 16)]
  termination_by u
  decreasing_by omega
def hexS (u : Nat) : ByteArray := ⟨(hexDigits u).toArray⟩

set_option maxHeartbeats 1000000 in
theorem isPow16 (w : World) : Calls Tryz.prog 160 #[.int .i64 16] w fun e w' => e = .returned (.bool true) ∧ w = w' := by
  go_enter Tryz.func160, Tryz.ntmps160
  go_wp2
  go_ret
  exact ⟨rfl, rfl⟩

set_option maxHeartbeats 1000000 in
theorem tz16_64 (w : World) (h : Tz16 w) : Calls Tryz.prog 190 #[.int .u64 16] w fun e w' => e = .returned (.int .i64 4) ∧ w = w' := by
  have hc := h.2
  have b1 : bits BinOp.and IntKind.u64 16 (IntKind.u64.wrap (-16)) = 16 := by decide +kernel
  have w1 : IntKind.u64.wrap (16 * 285870213051353865) = 4573923408821661840 := by decide +kernel
  go_enter Tryz.func190, Tryz.ntmps190
  go_wp2
  go_ret
  exact ⟨rfl, rfl⟩

set_option maxHeartbeats 1000000 in
theorem tz16 (w : World) (h : Tz16 w) : Calls Tryz.prog 161 #[.int .u64 16] w fun e w' => e = .returned (.int .i64 4) ∧ w = w' := by
  go_enter Tryz.func161, Tryz.ntmps161
  go_wp2_with (first | (go_at_call 190; refine (tz16_64 _ h).mono ?_; rintro e w' ⟨rfl, rfl⟩))
  go_ret
  exact ⟨rfl, rfl⟩

theorem hexd_at (d : Nat) (h : d < 16) : (⟨#[48, 49, 50, 51, 52, 53, 54, 55, 56, 57, 97, 98, 99, 100, 101, 102, 103, 104, 105, 106, 107, 108, 109, 110, 111, 112, 113, 114, 115, 116, 117, 118, 119, 120, 121, 122]⟩ : ByteArray).data[d]? = some (hexd d) := by
  have : ∀ d : Fin 16, (⟨#[48, 49, 50, 51, 52, 53, 54, 55, 56, 57, 97, 98, 99, 100, 101, 102, 103, 104, 105, 106, 107, 108, 109, 110, 111, 112, 113, 114, 115, 116, 117, 118, 119, 120, 121, 122]⟩ : ByteArray).data[(d : Nat)]? = some (hexd d) := by decide +kernel
  exact this ⟨d, h⟩

theorem hexd_get (d : Nat) (h : d < 16) (h' : d < (⟨#[48, 49, 50, 51, 52, 53, 54, 55, 56, 57, 97, 98, 99, 100, 101, 102, 103, 104, 105, 106, 107, 108, 109, 110, 111, 112, 113, 114, 115, 116, 117, 118, 119, 120, 121, 122]⟩ : ByteArray).size) : (⟨#[48, 49, 50, 51, 52, 53, 54, 55, 56, 57, 97, 98, 99, 100, 101, 102, 103, 104, 105, 106, 107, 108, 109, 110, 111, 112, 113, 114, 115, 116, 117, 118, 119, 120, 121, 122]⟩ : ByteArray)[d] = hexd d := by
  have h1 := hexd_at d h
  obtain ⟨h2, h3⟩ := Array.getElem?_eq_some_iff.1 h1
  exact h3

theorem and15 (u : Nat) (h : u < 18446744073709551616) : bits BinOp.and IntKind.u64 (u : Int) 15 = ((u % 16 : Nat) : Int) := by
  have h1 := bits_and_u64_nat u 15 h (by decide)
  have h2 : u &&& 15 = u % 16 := by
    have := Nat.and_two_pow_sub_one_eq_mod u 4
    simpa using this
  rw [h2] at h1
  exact h1

/-- The digits of u, ahead of those that are there. -/
theorem hex_step {u : Nat} (h : 16 ≤ u) : hexDigits u = hexDigits (u / 16) ++ [hexd (u % 16)] := by
  rw [hexDigits, dif_neg (by omega)]
theorem hex_last {u : Nat} (h : u < 16) : hexDigits u = [hexd u] := by
  rw [hexDigits, dif_pos h]
theorem hex_length : ∀ (n u : Nat), u < 16 ^ (n + 1) → (hexDigits u).length ≤ n + 1
  | 0, u, h => by rw [hex_last (by simpa using h)]; simp
  | n + 1, u, h => by
    by_cases h16 : u < 16
    · rw [hex_last h16]; simp
    · rw [hex_step (by omega)]
      have := hex_length n (u / 16) (by rw [Nat.div_lt_iff_lt_mul (by decide)]; rw [Nat.pow_succ] at h; exact h)
      simp; omega

def u8s (l : List UInt8) : List Value := l.map fun b => Value.int .u8 (b.toNat : Int)

theorem drop_set_one {l : List Value} {i : Nat} (h : i < l.length) (v : Value) : (l.set i v).drop i = v :: l.drop (i + 1) := by
  rw [List.drop_eq_getElem_cons (by simpa using h)]
  simp [List.drop_set_of_lt]

theorem zero65 : Tryz.zeroCells198 = (List.replicate 65 (Value.int .u8 0)).toArray := by kernel_rfl

end Go.Proofs.YtieglgahfeecbaaGreatDoor
