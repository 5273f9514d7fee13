/- A number out of its digits: strconv.ParseUint at whatever text; shape.number, walked. -/
import Derived.Test.YtknlhkkpheahlaaDoorShelfPu
import Derived.Test.YtknlhkkpheahlaaDoorFmtU
import Derived.OwnWalk
import Derived.Lib.UnsafeStr
namespace Go.Proofs.YtknlhkkpheahlaaDoor
open Go.RowKit Go.Sort Go.Lib

/-- The library's two errors stand. -/
def ErrAt (w : World) (g : Nat) : Prop := g < w.heap.size ∧ ∃ ev, w.cell? ⟨g, 0, none⟩ = some ev ∧ (ev = .nilIface ∨ ∃ te pe, ev = .iface te pe)
theorem ErrAt.below {w w' : World} {g : Nat} (h : ErrAt w g) (hb : Below w.heap.size w w') : ErrAt w' g := by
  obtain ⟨h1, ev, h2, h3⟩ := h
  exact ⟨Nat.lt_of_lt_of_le h1 hb.size, ev, (hb.cell (p := ⟨g, 0, none⟩) h1).trans h2, h3⟩
def ErrT (w : World) : Prop := ErrAt w 7 ∧ ErrAt w 8
theorem ErrT.below {w w' : World} (h : ErrT w) (hb : Below w.heap.size w w') : ErrT w' := ⟨h.1.below hb, h.2.below hb⟩

def puS (s : ByteArray) : Option Nat := match Lib.parseUintB 32 s.data.toList with
  | .ok u => some u
  | _ => none

theorem bytes_below (w : World) (t : TypeId) (s : ByteArray) : Below w.heap.size w (Lib.bytesWorld w t s) := by
  unfold Lib.bytesWorld
  exact below_freeze (Below.alloc (B := w.heap.size) (Below.drewN' (Below.refl w.heap.size w) 1) (Nat.le_refl _) _) (Nat.le_refl _) 1

theorem ParseUint_any (s : ByteArray) (w : World) (hs : s.size ≤ 281474976710656) (h : ErrT w) :
    Calls Tryd.prog 114 #[.string s, .int .i64 10, .int .i64 32] w fun e w' => ∃ (u : Nat) (ev : Value), e = .returned (.tuple #[.int .u64 u, ev]) ∧ Below w.heap.size w w' ∧ ((puS s = some u ∧ ev = .nilIface) ∨ (puS s = none ∧ ∃ t p, ev = .iface t p)) := by
  obtain ⟨⟨_, e1, h1, k1⟩, ⟨_, e2, h2, k2⟩⟩ := h
  cases hp : Lib.parseUintB 32 s.data.toList
  case ok u =>
    refine (Any.strconv_ParseUint_10_at32_ok Tryd.laysPu14 s (by omega) u hp w).mono ?_
    rintro e w' ⟨rfl, hw⟩
    refine ⟨u, .nilIface, rfl, ?_, .inl ⟨by unfold puS; rw [hp], rfl⟩⟩
    rcases hw with rfl | rfl
    · exact Below.refl _ _
    · exact bytes_below _ _ _
  · refine (Any.strconv_ParseUint_10_at32_syntax Tryd.laysPu14 s hs hp e1 w h1 k1).mono ?_
    rintro e w' ⟨N, rfl, _, _, hb⟩
    exact ⟨0, _, rfl, hb, .inr ⟨by unfold puS; rw [hp], _, _, rfl⟩⟩
  · refine (Any.strconv_ParseUint_10_at32_range Tryd.laysPu14 s hs hp e2 w h2 k2).mono ?_
    rintro e w' ⟨N, rfl, _, _, hb⟩
    exact ⟨4294967295, _, rfl, hb, .inr ⟨by unfold puS; rw [hp], _, _, rfl⟩⟩

theorem puM_le (M : Nat) : ∀ (l : List UInt8) (acc u : Nat), acc ≤ M → Lib.parseUintM M acc l = .ok u → u ≤ M
  | [], acc, u, ha, h => by
    rw [Lib.parseUintM] at h
    injection h with h
    omega
  | c :: r, acc, u, ha, h => by
    rw [Lib.parseUintM] at h
    split at h
    · split at h
      · cases h
      · split at h
        · cases h
        · exact puM_le M r _ u (by omega) h
    · cases h
theorem pu_le {s : ByteArray} {u : Nat} (h : puS s = some u) : u ≤ 4294967295 := by
  unfold puS at h
  split at h
  · rename_i v hv
    injection h with h
    subst h
    unfold Lib.parseUintB at hv
    split at hv
    · cases hv
    · exact puM_le _ _ _ _ (by omega) hv
  · cases h

/-- The number that is spelled so, and no other way. -/
def numS (s : ByteArray) : Option Nat := match puS s with
  | some u => if udecS u = s then some u else none
  | none => none
theorem num_le {s : ByteArray} {u : Nat} (h : numS s = some u) : u ≤ 4294967295 := by
  unfold numS at h
  split at h
  · rename_i v hv
    split at h
    · injection h with h; subst h; exact pu_le hv
    · cases h
  · cases h

set_option maxHeartbeats 4000000 in
set_option maxRecDepth 100000 in
theorem number_any (s : ByteArray) (w : World) (hs : s.size ≤ 281474976710656) (h : ErrT w) (ht : TabT w) :
    Calls Tryd.prog 87 #[.string s] w fun e w' => e = .returned (.tuple #[.int .i64 ((numS s).getD 0 : Nat), .bool (numS s).isSome]) ∧ Below w.heap.size w w' := by
  have HP := Lib.hid (ParseUint_any s w hs h)
  have HT := Lib.hid ht
  have HN : RowKit.Hid (numS s = match puS s with
    | some u => if udecS u = s then some u else none
    | none => none) := Lib.hid rfl
  clear h ht hs
  cases hp : puS s with
  | none =>
    have HV := Lib.hid (show numS s = none by rw [HN.out, hp])
    rw [hp] at HP
    clear hp HN
    generalize numS s = R at *
    go_enter Tryd.func87, Tryd.ntmps87
    go_wp2_with fail
    refine HP.out.mono ?_
    rintro e w1 ⟨u, ev, rfl, hb, ⟨h1, _⟩ | ⟨_, t, p, rfl⟩⟩
    · cases h1
    · have HB := Lib.hid hb
      clear hb
      go_wp2
      go_ret2
      rw [HV.out]
      exact ⟨rfl, HB.out⟩
  | some u =>
    have hle := pu_le hp
    have HF := Lib.hid (fun W h => FormatUint10 u (by omega) W h)
    by_cases hu : udecS u = s
    · have HV := Lib.hid (show numS s = some u by rw [HN.out, hp]; exact if_pos hu)
      rw [hp] at HP
      rw [hu] at HF
      have e1 : (s.toList == s.toList) = true := beq_self_eq_true s.toList
      have q1 : (u : Int) ≤ 4294967295 := by omega
      generalize numS s = R at *
      clear hp HN hu
      go_enter Tryd.func87, Tryd.ntmps87
      go_wp2_with fail
      refine HP.out.mono ?_
      rintro e w1 ⟨u', ev, rfl, hb, ⟨h1, rfl⟩ | ⟨h1, _⟩⟩
      · injection h1 with h1
        subst h1
        have HB := Lib.hid hb
        clear hb
        go_wp2_with fail
        refine (HF.out _ (HT.out.below HB.out)).mono ?_
        rintro e w2 ⟨rfl, hb2⟩
        go_wp2
        go_ret2
        rw [HV.out]
        exact ⟨rfl, HB.out.trans (hb2.mono HB.out.size)⟩
      · cases h1
    · have HV := Lib.hid (show numS s = none by rw [HN.out, hp]; exact if_neg hu)
      have e1 : ((udecS u).toList == s.toList) = false := by
        rw [beq_eq_false_iff_ne]; intro h; exact hu (ByteArray.ext (Array.toList_inj.1 (by rw [← ByteArray.toList_eq, ← ByteArray.toList_eq]; exact h)))
      rw [hp] at HP
      generalize udecS u = x at *
      generalize numS s = R at *
      clear hp HN hu
      go_enter Tryd.func87, Tryd.ntmps87
      go_wp2_with fail
      refine HP.out.mono ?_
      rintro e w1 ⟨u', ev, rfl, hb, ⟨h1, rfl⟩ | ⟨h1, _⟩⟩
      · injection h1 with h1
        subst h1
        have HB := Lib.hid hb
        clear hb
        go_wp2_with fail
        refine (HF.out _ (HT.out.below HB.out)).mono ?_
        rintro e w2 ⟨rfl, hb2⟩
        go_wp2
        go_ret2
        rw [HV.out]
        exact ⟨rfl, HB.out.trans (hb2.mono HB.out.size)⟩
      · cases h1

end Go.Proofs.YtknlhkkpheahlaaDoor
