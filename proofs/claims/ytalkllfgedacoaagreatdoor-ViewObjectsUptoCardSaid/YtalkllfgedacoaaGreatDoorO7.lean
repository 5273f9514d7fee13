/- A case, out of its word: stopgate/stopgateref24.kase, walked. -/
import Derived.Test.YtalkllfgedacoaaGreatDoorShelfPu
import Derived.Test.YtalkllfgedacoaaGreatDoorO4
import Derived.Test.YtalkllfgedacoaaGreatDoorO6
import Derived.Test.YtalkllfgedacoaaGreatDoorO2
import Derived.Laws.ResultCell
import Derived.Laws.Rows
import Derived.Test.YtalkllfgedacoaaGreatDoorO5
import Derived.Test.YtalkllfgedacoaaGreatDoorO3
import Derived.Great.BuildSlice
import Derived.Deep.RegionHeld3
namespace Go.Proofs.YtalkllfgedacoaaGreatDoor
open Go.RowKit Go.Sort Go.Lib

theorem ParseUint64_any (s : ByteArray) (w : World) (hs : s.size ≤ 281474976710656) (h : ErrT w) :
    Calls Tryz.prog 125 #[.string s, .int .i64 10, .int .i64 64] w fun e w' => ∃ (u : Nat) (ev : Value), e = .returned (.tuple #[.int .u64 u, ev]) ∧ Below w.heap.size w w' ∧ ((pu64 s = some u ∧ ev = .nilIface) ∨ (pu64 s = none ∧ ∃ t p, ev = .iface t p)) := by
  obtain ⟨⟨_, e1, h1, k1⟩, ⟨_, e2, h2, k2⟩⟩ := h
  cases hp : Lib.parseUintB 64 s.data.toList
  case ok u =>
    refine (Any.strconv_ParseUint_10_at64_ok Tryz.laysPu14 s (by omega) u hp w).mono ?_
    rintro e w' ⟨rfl, hw⟩
    refine ⟨u, .nilIface, rfl, ?_, .inl ⟨by unfold pu64; rw [hp], rfl⟩⟩
    rcases hw with rfl | rfl
    · exact Below.refl _ _
    · exact bytes_below _ _ _
  · refine (Any.strconv_ParseUint_10_at64_syntax Tryz.laysPu14 s hs hp e1 w h1 k1).mono ?_
    rintro e w' ⟨N, rfl, _, _, hb⟩
    exact ⟨0, _, rfl, hb, .inr ⟨by unfold pu64; rw [hp], _, _, rfl⟩⟩
  · refine (Any.strconv_ParseUint_10_at64_range Tryz.laysPu14 s hs hp e2 w h2 k2).mono ?_
    rintro e w' ⟨N, rfl, _, _, hb⟩
    exact ⟨18446744073709551615, _, rfl, hb, .inr ⟨by unfold pu64; rw [hp], _, _, rfl⟩⟩

theorem puM_le64 (M : Nat) : ∀ (l : List UInt8) (acc u : Nat), acc ≤ M → Lib.parseUintM M acc l = .ok u → u ≤ M
  | [], acc, u, ha, h => by
    rw [Lib.parseUintM] at h
    injection h with h
    omega
  | c :: r, acc, u, ha, h => by
    rw [Lib.parseUintM] at h
    split at h
    · split at h
      · cases h
      · split at h
        · cases h
        · exact puM_le64 M r _ u (by omega) h
    · cases h
theorem pu64_le {s : ByteArray} {u : Nat} (h : pu64 s = some u) : u ≤ 18446744073709551615 := by
  unfold pu64 at h
  split at h
  · rename_i v hv
    injection h with h
    subst h
    unfold Lib.parseUintB at hv
    split at hv
    · cases hv
    · exact puM_le64 _ _ _ _ (by omega) hv
  · cases h

set_option maxHeartbeats 4000000 in
set_option maxRecDepth 100000 in
theorem number24_any (most : Nat) (s : ByteArray) (w : World) (hm : most ≤ 4294967295) (hs : s.size ≤ 281474976710656) (h : ErrT w) (ht : TabT w) :
    Calls Tryz.prog 82 #[.string s, .int .i64 most] w fun e w' => e = .returned (.tuple #[.int .i64 ((numQ most s).getD 0 : Nat), .bool (numQ most s).isSome]) ∧ Below w.heap.size w w' := by
  have HP := Lib.hid (ParseUint64_any s w hs h)
  have HT := Lib.hid ht
  have HN : RowKit.Hid (numQ most s = match pu64 s with
    | some u => if u ≤ most ∧ udecS u = s then some u else none
    | none => none) := Lib.hid rfl
  clear h ht hs
  cases hp : pu64 s with
  | none =>
    have HV := Lib.hid (show numQ most s = none by rw [HN.out, hp])
    rw [hp] at HP
    clear hp HN
    generalize numQ most s = R at *
    go_enter Tryz.func82, Tryz.ntmps82
    go_wp2_with fail
    refine HP.out.mono ?_
    rintro e w1 ⟨u, ev, rfl, hb, ⟨h1, _⟩ | ⟨_, t, p, rfl⟩⟩
    · cases h1
    · have HB := Lib.hid hb
      clear hb
      go_wp2
      go_ret2
      rw [HV.out]
      exact ⟨rfl, HB.out⟩
  | some u =>
    have hle := pu64_le hp
    by_cases hum : u ≤ most
    · have HF := Lib.hid (fun W h => FormatUint10 u (by omega) W h)
      have q0 : ¬ (most : Int) < (u : Int) := by omega
      have q2 : (u : Int) ≤ 4294967295 := by omega
      have q3 : (most : Int) ≤ 4294967295 := by omega
      by_cases hu : udecS u = s
      · have HV := Lib.hid (show numQ most s = some u by rw [HN.out, hp]; exact if_pos ⟨hum, hu⟩)
        rw [hp] at HP
        rw [hu] at HF
        have e1 : (s.toList == s.toList) = true := beq_self_eq_true s.toList
        generalize numQ most s = R at *
        clear hp HN hu
        go_enter Tryz.func82, Tryz.ntmps82
        go_wp2_with fail
        refine HP.out.mono ?_
        rintro e w1 ⟨u', ev, rfl, hb, ⟨h1, rfl⟩ | ⟨h1, _⟩⟩
        · injection h1 with h1
          subst h1
          have HB := Lib.hid hb
          clear hb
          go_wp2_with fail
          refine (HF.out _ (HT.out.below HB.out)).mono ?_
          rintro e w2 ⟨rfl, hb2⟩
          go_wp2
          go_ret2
          rw [HV.out]
          exact ⟨rfl, HB.out.trans (hb2.mono HB.out.size)⟩
        · cases h1
      · have HV := Lib.hid (show numQ most s = none by rw [HN.out, hp]; exact if_neg (fun h => hu h.2))
        have e1 : ((udecS u).toList == s.toList) = false := by
          rw [beq_eq_false_iff_ne]; intro h; exact hu (ByteArray.ext (Array.toList_inj.1 (by rw [← ByteArray.toList_eq, ← ByteArray.toList_eq]; exact h)))
        rw [hp] at HP
        generalize udecS u = x at *
        generalize numQ most s = R at *
        clear hp HN hu
        go_enter Tryz.func82, Tryz.ntmps82
        go_wp2_with fail
        refine HP.out.mono ?_
        rintro e w1 ⟨u', ev, rfl, hb, ⟨h1, rfl⟩ | ⟨h1, _⟩⟩
        · injection h1 with h1
          subst h1
          have HB := Lib.hid hb
          clear hb
          go_wp2_with fail
          refine (HF.out _ (HT.out.below HB.out)).mono ?_
          rintro e w2 ⟨rfl, hb2⟩
          go_wp2
          go_ret2
          rw [HV.out]
          exact ⟨rfl, HB.out.trans (hb2.mono HB.out.size)⟩
        · cases h1
    · have HV := Lib.hid (show numQ most s = none by rw [HN.out, hp]; exact if_neg (fun h => hum h.1))
      have q0 : (most : Int) < (u : Int) := by omega
      have q3 : (most : Int) ≤ 4294967295 := by omega
      rw [hp] at HP
      generalize numQ most s = R at *
      clear hp HN hum
      go_enter Tryz.func82, Tryz.ntmps82
      go_wp2_with fail
      refine HP.out.mono ?_
      rintro e w1 ⟨u', ev, rfl, hb, ⟨h1, rfl⟩ | ⟨h1, _⟩⟩
      · injection h1 with h1
        subst h1
        have HB := Lib.hid hb
        clear hb
        go_wp2
        go_ret2
        rw [HV.out]
        exact ⟨rfl, HB.out⟩
      · cases h1

def NumsNo (most : Nat) (l : List ByteArray) (w : World) (e : Ending) (w' : World) : Prop := numsQ most l = none ∧ e = .returned (.tuple #[.slice none 0 0, .bool false]) ∧ Below w.heap.size w w'
def NumsOk (most : Nat) (l : List ByteArray) (w : World) (e : Ending) (w' : World) : Prop := ∃ x A c, numsQ most l = some x ∧ e = .returned (.tuple #[.slice A x.length c, .bool true]) ∧ w'.ownsRow w.heap.size 3 1 (.slice A x.length c) x.length (ints (x.map Int.ofNat)) ∧ Below w.heap.size w w'
def NumsPost (most : Nat) (l : List ByteArray) (w : World) (e : Ending) (w' : World) : Prop := NumsNo most l w e w' ∨ NumsOk most l w e w'

end Go.Proofs.YtalkllfgedacoaaGreatDoor

namespace Go.Proofs.YtalkllfgedacoaaGreatDoor
open Go.RowKit Go.Sort


set_option maxHeartbeats 8000000 in
set_option maxRecDepth 100000 in
theorem rnumbers24_any (most : Nat) (A : Option Addr) (n c : Nat) (l : List ByteArray) (w : World) (hm : most ≤ 4294967295) (h9 : 9 ≤ most) (hl : l.length = n) (hn : n ≤ 1099511627776) (hR : Rd w A (rows l)) (hz : ∀ x ∈ l, x.size ≤ 4294967296) :
    Calls Tryz.prog 87 #[.slice A n c, .int .i64 most] w (NumsPost most l w) := by
  have HR := Lib.hid hR
  have HZ := Lib.hid hz
  have HN := Lib.hid hl

  clear hR hz hl
  go_enter Tryz.func87, Tryz.ntmps87
  go_wp2
  go_loopg [6, 13] n (fun gg lv i wr => ∃ (k : Nat) (V : Option Addr) (cv : Nat) (x : List Nat), k ≤ n ∧ gg = n - k ∧ i = .int .i64 k ∧ lv = .slice V k cv ∧ numsQ most (l.take k) = some x ∧ wr.ownsRow w.heap.size 3 1 (.slice V k cv) k (ints (x.map Int.ofNat)) ∧ Below w.heap.size w wr)
  case atStart => exact ⟨0, none, 0, [], Nat.zero_le _, rfl, rfl, rfl, rfl, own_nil _ _ _ _, Below.refl _ _⟩
  case round =>
    obtain ⟨k, V, cv, x, hk, hg, rfl, rfl, hx, hown, hb⟩ := hrel
    have HG := Lib.hid hg
    have HX := Lib.hid hx
    have HO := Lib.hid hown
    have HB := Lib.hid hb
    clear hg hx hown hb
    by_cases hlt : k < n
    · have q1 : (k : Int) < (n : Int) := by omega
      have hkl : k < l.length := by rw [HN.out]; exact hlt
      obtain ⟨bb, oo, rfl, hbl, hcs⟩ := strs_cell (HR.out.below HB.out) (fun e => by rw [e] at hkl; exact Nat.not_lt_zero _ hkl)
      have x0 := hcs k (l.getD k ⟨#[]⟩) (by rw [List.getD, List.getElem?_eq_getElem hkl]; rfl)
      have hzs := HZ.out (l.getD k ⟨#[]⟩) (by rw [List.getD, List.getElem?_eq_getElem hkl]; exact List.getElem_mem _)
      have HSTEP := Lib.hid (numsQ_step hkl HX.out)
      clear hcs hkl
      generalize l.getD k ⟨#[]⟩ = s at *
      have HC := Lib.hid (rNumber_any most s wr hm h9 (by omega))
      clear hzs
      cases hq : numQ most s with
      | none =>
        rw [hq] at HC HSTEP
        have HNO := Lib.hid (numsQ_dead HSTEP.out)
        clear hq
        go_wp2_with fail
        refine HC.out.mono ?_
        rintro e w1 ⟨rfl, hb1⟩
        simp only [Option.isSome_none, Option.getD_none]
        go_wp2
        go_ret2
        exact .inl ⟨HNO.out, rfl, HB.out.trans (hb1.mono HB.out.size)⟩
      | some m =>
        have hmm := numQ_le hq
        rw [hq] at HC HSTEP
        clear hq
        go_wp2_with fail
        refine HC.out.mono ?_
        rintro e w1 ⟨rfl, hb1⟩
        have HB1 := Lib.hid (HB.out.trans (hb1.mono HB.out.size))
        have HO1 := Lib.hid (own_below HO.out hb1)
        clear hb1
        simp only [Option.isSome_some, Option.getD_some]
        go_wp2_with (at_builtin; refine wpList_app rfl (.tmp 25) (.tmp 27) 53 3 rfl w.heap.size (.int .i64 0) 1 8 Tryz.underlying53 int_info rfl (by decide) V k cv (ints (x.map Int.ofNat)) rfl (own_below HO1.out ((Below.refl _ _).alloc (Nat.le_refl _) _)) (some ⟨w1.heap.size, 0, none⟩) 1 1 (ints [(m : Int)]) rfl (by simp) rfl (blk_new (cs := ints [(m : Int)]) rfl).rd (ints_one _) (k + 1) rfl (ints ((x ++ [m]).map Int.ofNat)) (by simp [ints]) (by unfold maxLen; omega) (by omega) (by have := HB1.out.size; simp; omega) ?_; intro V3 cv3 w3 hown3 hg3 hb3)
        go_roundg (n - (k + 1))
        case measure => rw [HG.out]; omega
        case rel => exact ⟨k + 1, V3, cv3, x ++ [m], by omega, rfl, by go_num, rfl, HSTEP.out, hown3, (HB1.out.alloc (HB1.out.size) _).trans hb3⟩
    · obtain rfl : k = n := by omega
      have q1 : ¬ (k : Int) < (k : Int) := by omega
      have HL : RowKit.Hid (numsQ most l = some x) := Lib.hid (by
        have := HX.out
        rwa [List.take_of_length_le (by rw [HN.out]; exact Nat.le_refl _)] at this)
      have HXL := Lib.hid ((numsQ_len HL.out).trans HN.out)
      go_wp2
      go_ret2
      refine .inr ⟨x, V, cv, HL.out, ?_, ?_, HB.out⟩
      · rw [HXL.out]; rfl
      · rw [HXL.out]; exact HO.out

end Go.Proofs.YtalkllfgedacoaaGreatDoor

namespace Go.Proofs.YtalkllfgedacoaaGreatDoor
open Go.RowKit Go.Sort

theorem CloneC_info : (Tryz.prog.info? 110).map (fun i => (i.zero, i.size, i.bytes)) = some (some (cseV Cse.none), 3, 24) := by kernel_rfl

set_option maxHeartbeats 1000000 in
set_option maxRecDepth 100000 in
theorem CloneC_any (A : Option Addr) (n c : Nat) (xs : List Value) (w : World) (hn : n * 24 ≤ 140737488355328) (hx : xs.length = n * 3) (h1 : ∀ u ∈ xs, u.oneCell' = true) (hR : Rd w A xs) :
    Calls Tryz.prog 161 #[.slice A n c] w (RetOwn 110 3 n xs w) := by
  have HR := Lib.hid hR
  have HX := Lib.hid hx
  have H1 := Lib.hid h1
  clear hR hx h1
  rcases A with _ | ad
  · have hxs : xs = [] := by
      rcases HR.out with h | ⟨b, o, h, _⟩
      · exact h
      · cases h
    obtain rfl : n = 0 := by have := HX.out; rw [hxs] at this; simp at this; omega
    have hnil := fun w => Lib.run_eql_slice_nil (P := Tryz.prog) w 22 110 none 0 c 0 0 Tryz.underlying22
    go_enter Tryz.func161, Tryz.ntmps161
    go_wp2
    go_ret
    exact ⟨none, 0, rfl, by rw [hxs]; exact own_nil _ _ _ _, Below.refl _ _⟩
  · have hnil := fun w => Lib.run_eql_slice_nil (P := Tryz.prog) w 22 110 (some ad) n c 0 0 Tryz.underlying22
    obtain ⟨i0, hi, hz0, hz1, hz2⟩ := info_parts CloneC_info
    have hnm : n ≤ maxLen := by unfold maxLen; omega
    have HI := Lib.hid (And.intro hi (And.intro hz0 (And.intro hz1 (And.intro hz2 hnm))))
    clear hi hz0 hz1 hz2 hnm
    go_enter Tryz.func161, Tryz.ntmps161
    go_wp2_with (at_builtin; refine wpList_append_own _ rfl (.tmp 5) (.tmp 6) 22 rfl w.heap.size 110 i0 (cseV Cse.none) 3 24 Tryz.underlying22 HI.out.1 HI.out.2.1 HI.out.2.2.1 HI.out.2.2.2.1 rfl (by decide) (.slice (some ⟨w.heap.size, 0, none⟩) 0 0) 0 [] rfl (own_empty w 110 3) ad n c xs rfl HX.out (rd_add (HR.out.alloc _)) H1.out (by have := HI.out.2.2.2.2; omega) (by omega) (by simp) ?_; intro v' w1 hown1 hg1 hnl1)
    go_ret
    have hown2 : w1.ownsRow w.heap.size 110 3 v' n xs := by simpa using hown1
    have hb := ((Below.refl _ w).alloc (Nat.le_refl _) _).trans ((own_grown (own_empty w 110 3) (by simp) hg1))
    rcases hown2.2 with ⟨rfl, h0⟩ | ⟨g, cap, cur, rfl, _⟩
    · subst h0
      exact ⟨none, 0, rfl, hown2, hb⟩
    · exact ⟨_, _, rfl, hown2, hb⟩

theorem req_load {w : World} {g : Nat} {q : Reqr} (h : Blk w g 24 q.cells) : (loadVar 24 ⟨g, 0, none⟩).run Tryz.prog w = .ok (reqV q) w :=
  run_loadVar_row (P := Tryz.prog) w g 24 24 _ (0, 0) _ h Tryz.underlying24 rfl (by kernel_rfl)
theorem cse_load {w : World} {g : Nat} {x : Cse} (h : Blk w g 110 x.cells) : (loadVar 110 ⟨g, 0, none⟩).run Tryz.prog w = .ok (cseV x) w :=
  run_loadVar_row (P := Tryz.prog) w g 110 110 _ (0, 0) _ h Tryz.underlying110 rfl (by kernel_rfl)

/-- A call is written. -/
theorem req_put {w : World} {g : Nat} {q : Reqr} (h : Blk w g 24 q.cells) (p : Reqr) :
    Blk (((((w.setCell ⟨g, 0, none⟩ (.int .i64 p.kind)).setCell ⟨g, 1, none⟩ (.int .i64 p.arg)).setCell ⟨g, 2, none⟩ (.int .i64 p.value)).setCell ⟨g, 3, none⟩ (.bool p.dflt)).setCell ⟨g, 4, none⟩ (.slice p.A p.n p.c)) g 24 p.cells ∧
    ∀ B, B ≤ g → Below B w (((((w.setCell ⟨g, 0, none⟩ (.int .i64 p.kind)).setCell ⟨g, 1, none⟩ (.int .i64 p.arg)).setCell ⟨g, 2, none⟩ (.int .i64 p.value)).setCell ⟨g, 3, none⟩ (.bool p.dflt)).setCell ⟨g, 4, none⟩ (.slice p.A p.n p.c)) :=
  ⟨((((h.set_ 0 (.int .i64 p.kind)).set_ 1 (.int .i64 p.arg)).set_ 2 (.int .i64 p.value)).set_ 3 (.bool p.dflt)).set_ 4 (.slice p.A p.n p.c),
   fun B hB => (((((Below.refl B w).setCell (p := ⟨g, 0, none⟩) hB _).setCell (p := ⟨g, 1, none⟩) hB _).setCell (p := ⟨g, 2, none⟩) hB _).setCell (p := ⟨g, 3, none⟩) hB _).setCell (p := ⟨g, 4, none⟩) hB _⟩
theorem Rd.set_ {w : World} {g : Nat} {A : Option Addr} {xs : List Value} (h : Rd w A xs) (hA : ∀ b o, A = some ⟨b, o, none⟩ → b ≠ g) (i : Nat) (u : Value) : Rd (w.setCell ⟨g, i, none⟩ u) A xs := by
  rcases h with h | ⟨b, o, rfl, hlt, hc⟩
  · exact .inl h
  · have hn : b ≠ g := hA b o rfl
    have hO := (Only.refl g w).set_ i u
    exact .inr ⟨b, o, rfl, Nat.lt_of_lt_of_le hlt hO.size, fun k v hk => by rw [hO.cell (p := ⟨b, o + k, none⟩) hlt hn]; exact hc k v hk⟩


set_option maxHeartbeats 1000000 in
set_option maxRecDepth 100000 in
theorem To_any (a : Int) (b : Int) (w : World) : Calls Tryz.prog 138 #[.int .i64 a, .int .i64 b] w fun e w' => e = .returned (cseV ⟨1, a, b⟩) ∧ Below w.heap.size w w' := by
  go_enter Tryz.func138, Tryz.ntmps138
  go_wp2
  exact bodyPost_ret (v := cseV ⟨1, a, b⟩) (ret_cell (g := w.heap.size) rfl rfl (cse_load (x := ⟨1, a, b⟩) (blk_new rfl))) rfl ⟨rfl, (Below.refl _ _).alloc (Nat.le_refl _) _⟩


set_option maxHeartbeats 1000000 in
set_option maxRecDepth 100000 in
theorem From_any (a : Int) (w : World) : Calls Tryz.prog 139 #[.int .i64 a] w fun e w' => e = .returned (cseV ⟨2, a, 0⟩) ∧ Below w.heap.size w w' := by
  go_enter Tryz.func139, Tryz.ntmps139
  go_wp2
  exact bodyPost_ret (v := cseV ⟨2, a, 0⟩) (ret_cell (g := w.heap.size) rfl rfl (cse_load (x := ⟨2, a, 0⟩) (blk_new rfl))) rfl ⟨rfl, (Below.refl _ _).alloc (Nat.le_refl _) _⟩


/-- Handed back: a call of cases, with a row of its own. -/
def RetSel (d : Bool) (l : List Cse) (w : World) (e : Ending) (w' : World) : Prop :=
  ∃ A n c, e = .returned (reqV ⟨3, 0, 0, d, A, n, c⟩) ∧ ReqAt w' ⟨3, 0, 0, d, A, n, c⟩ l ∧ n = l.length ∧ (∀ b o, A = some ⟨b, o, none⟩ → w.heap.size < b) ∧ Below w.heap.size w w'

theorem own_apart {w : World} {base g : Nat} {e : TypeId} {s n : Nat} {A : Option Addr} {c : Nat} {xs : List Value} (h : w.ownsRow base e s (.slice A n c) n xs) (hg : g < base) : ∀ b o, A = some ⟨b, o, none⟩ → b ≠ g := by
  intro b o hA
  rcases h.2 with ⟨hv, _⟩ | ⟨g', cap, cur, hv, hb, _⟩
  · injection hv with hA' _ _; rw [hA] at hA'; cases hA'
  · injection hv with hA' _ _
    rw [hA] at hA'
    injection hA' with hA'
    injection hA' with hA'
    omega

theorem own_above {w : World} {base : Nat} {e : TypeId} {s n : Nat} {A : Option Addr} {c : Nat} {xs : List Value} (h : w.ownsRow base e s (.slice A n c) n xs) : ∀ b o, A = some ⟨b, o, none⟩ → base ≤ b := by
  intro b o hA
  rcases h.2 with ⟨hv, _⟩ | ⟨g', cap, cur, hv, hb, _⟩
  · injection hv with hA' _ _; rw [hA] at hA'; cases hA'
  · injection hv with hA' _ _
    rw [hA] at hA'
    injection hA' with hA'
    injection hA' with hA'
    omega

set_option maxHeartbeats 1000000 in
set_option maxRecDepth 100000 in
theorem Select_any (d : Bool) (A : Option Addr) (n c : Nat) (l : List Cse) (w : World) (hl : l.length = n) (hn : n * 24 ≤ 140737488355328) (hR : Rd w A (rows l)) :
    Calls Tryz.prog 137 #[.bool d, .slice A n c] w (RetSel d l w) := by
  have HR := Lib.hid hR
  have HL := Lib.hid hl
  have HC := Lib.hid (fun W h => CloneC_any A n c (rows l) W hn (by rw [rows_length, hl]; rfl) (rows_one l) h)
  clear hR hl
  go_enter Tryz.func137, Tryz.ntmps137
  go_wp2_with fail
  refine (HC.out _ (HR.out.below ((Below.refl _ _).alloc (Nat.le_refl _) _))).mono ?_
  rintro e w1 ⟨A', c', rfl, ho, hb⟩
  have HO := Lib.hid ho
  have HB := Lib.hid hb
  have hbx : Blk w1 w.heap.size 24 (Reqr.cells ⟨0, 0, 0, false, none, 0, 0⟩) := (Blk.new w 24 (Reqr.cells ⟨0, 0, 0, false, none, 0, 0⟩)).below hb (by simp)
  have HX := Lib.hid hbx
  obtain ⟨x0, x1, x2, x3, x4⟩ := reqBox hbx
  have f0 := hbx.frozen 0
  have f1 := hbx.frozen 1
  have f2 := hbx.frozen 2
  have f3 := hbx.frozen 3
  have f4 := hbx.frozen 4
  have hlt := hbx.lt
  clear ho hb hbx
  simp only at x0 x1 x2 x3 x4
  go_wp2
  obtain ⟨hB, hL⟩ := req_put HX.out ⟨3, 0, 0, d, A', n, c'⟩
  have hl := req_load hB
  have hap := own_apart (g := w.heap.size) HO.out (by simp)
  have hr := own_rd HO.out
  have hbl := (((Below.refl _ _).alloc (Nat.le_refl _) _).trans (HB.out.mono (by simp))).trans (hL _ (Nat.le_refl _))
  refine bodyPost_ret (v := reqV ⟨3, 0, 0, d, A', n, c'⟩) (ret_cell (g := w.heap.size) rfl rfl hl) rfl ?_
  refine ⟨A', n, c', rfl, ⟨HL.out, ?_⟩, HL.out.symm, ?_, hbl⟩
  · exact ((((hr.set_ hap _ _).set_ hap _ _).set_ hap _ _).set_ hap _ _).set_ hap _ _
  · intro b o hA
    have := own_above HO.out b o hA
    simp only [World.size_alloc] at this
    omega


set_option maxHeartbeats 1000000 in
set_option maxRecDepth 100000 in
theorem Send_any (a : Int) (b : Int) (w : World) : Calls Tryz.prog 105 #[.int .i64 a, .int .i64 b] w (RetSel false [⟨1, a, b⟩] w) := by
  go_enter Tryz.func105, Tryz.ntmps105
  go_wp2_with fail
  refine (To_any a b _).mono ?_
  rintro e w1 ⟨rfl, hb1⟩
  have hb1' : Below w.heap.size w w1 := ((Below.refl _ _).alloc (Nat.le_refl _) _).trans (hb1.mono (by simp))
  have HX1 := Lib.hid ((Blk.new w 24 (Reqr.cells ⟨0, 0, 0, false, none, 0, 0⟩)).below hb1 (by simp))
  have HB1 := Lib.hid hb1'
  clear hb1 hb1'
  go_wp2_with fail
  refine (Select_any false (some ⟨w1.heap.size, 0, none⟩) 1 1 [⟨1, a, b⟩] _ rfl (by omega) (Blk.rd (cs := rows [(⟨1, a, b⟩ : Cse)]) (blk_new rfl))).mono ?_
  rintro e w2 ⟨A', n, c', rfl, hq, hn, hab, hb2⟩
  have hb12 : Below w1.heap.size w1 w2 := ((Below.refl _ _).alloc (Nat.le_refl _) _).trans (hb2.mono (by simp))
  have HQ := Lib.hid hq
  have HB2 := Lib.hid (HB1.out.trans (hb12.mono HB1.out.size))
  have hbx := HX1.out.below hb12 HX1.out.lt
  have hx1 := HX1.out.lt
  have HX := Lib.hid hbx
  have HN := Lib.hid hn
  have HAB := Lib.hid (fun b o h => Nat.lt_trans hx1 (Nat.lt_of_lt_of_le (Nat.lt_succ_self _) (by have := hab b o h; simp at this; omega)) : ∀ b o, A' = some ⟨b, o, none⟩ → w.heap.size < b)
  obtain ⟨x0, x1, x2, x3, x4⟩ := reqBox hbx
  have f0 := hbx.frozen 0
  have f1 := hbx.frozen 1
  have f2 := hbx.frozen 2
  have f3 := hbx.frozen 3
  have f4 := hbx.frozen 4
  have hlt := hbx.lt
  clear hq hb2 hb12 hbx HX1 HB1 hn hab hx1
  simp only at x0 x1 x2 x3 x4
  go_wp2
  obtain ⟨hB, hL⟩ := req_put HX.out ⟨3, 0, 0, false, A', n, c'⟩
  have hl := req_load hB
  have hbl := HB2.out.trans (hL _ (Nat.le_refl _))
  have hr := HQ.out.rd
  have hap : ∀ b o, A' = some ⟨b, o, none⟩ → b ≠ w.heap.size := fun b o h => by have := HAB.out b o h; omega
  refine bodyPost_ret (v := reqV ⟨3, 0, 0, false, A', n, c'⟩) (ret_cell (g := w.heap.size) rfl rfl hl) rfl ?_
  refine ⟨A', n, c', rfl, ⟨HQ.out.len, ?_⟩, HN.out, HAB.out, hbl⟩
  exact ((((hr.set_ hap _ _).set_ hap _ _).set_ hap _ _).set_ hap _ _).set_ hap _ _


set_option maxHeartbeats 1000000 in
set_option maxRecDepth 100000 in
theorem Recv_any (a : Int) (w : World) : Calls Tryz.prog 106 #[.int .i64 a] w (RetSel false [⟨2, a, 0⟩] w) := by
  go_enter Tryz.func106, Tryz.ntmps106
  go_wp2_with fail
  refine (From_any a _).mono ?_
  rintro e w1 ⟨rfl, hb1⟩
  have hb1' : Below w.heap.size w w1 := ((Below.refl _ _).alloc (Nat.le_refl _) _).trans (hb1.mono (by simp))
  have HX1 := Lib.hid ((Blk.new w 24 (Reqr.cells ⟨0, 0, 0, false, none, 0, 0⟩)).below hb1 (by simp))
  have HB1 := Lib.hid hb1'
  clear hb1 hb1'
  go_wp2_with fail
  refine (Select_any false (some ⟨w1.heap.size, 0, none⟩) 1 1 [⟨2, a, 0⟩] _ rfl (by omega) (Blk.rd (cs := rows [(⟨2, a, 0⟩ : Cse)]) (blk_new rfl))).mono ?_
  rintro e w2 ⟨A', n, c', rfl, hq, hn, hab, hb2⟩
  have hb12 : Below w1.heap.size w1 w2 := ((Below.refl _ _).alloc (Nat.le_refl _) _).trans (hb2.mono (by simp))
  have HQ := Lib.hid hq
  have HB2 := Lib.hid (HB1.out.trans (hb12.mono HB1.out.size))
  have hbx := HX1.out.below hb12 HX1.out.lt
  have hx1 := HX1.out.lt
  have HX := Lib.hid hbx
  have HN := Lib.hid hn
  have HAB := Lib.hid (fun b o h => Nat.lt_trans hx1 (Nat.lt_of_lt_of_le (Nat.lt_succ_self _) (by have := hab b o h; simp at this; omega)) : ∀ b o, A' = some ⟨b, o, none⟩ → w.heap.size < b)
  obtain ⟨x0, x1, x2, x3, x4⟩ := reqBox hbx
  have f0 := hbx.frozen 0
  have f1 := hbx.frozen 1
  have f2 := hbx.frozen 2
  have f3 := hbx.frozen 3
  have f4 := hbx.frozen 4
  have hlt := hbx.lt
  clear hq hb2 hb12 hbx HX1 HB1 hn hab hx1
  simp only at x0 x1 x2 x3 x4
  go_wp2
  obtain ⟨hB, hL⟩ := req_put HX.out ⟨3, 0, 0, false, A', n, c'⟩
  have hl := req_load hB
  have hbl := HB2.out.trans (hL _ (Nat.le_refl _))
  have hr := HQ.out.rd
  have hap : ∀ b o, A' = some ⟨b, o, none⟩ → b ≠ w.heap.size := fun b o h => by have := HAB.out b o h; omega
  refine bodyPost_ret (v := reqV ⟨3, 0, 0, false, A', n, c'⟩) (ret_cell (g := w.heap.size) rfl rfl hl) rfl ?_
  refine ⟨A', n, c', rfl, ⟨HQ.out.len, ?_⟩, HN.out, HAB.out, hbl⟩
  exact ((((hr.set_ hap _ _).set_ hap _ _).set_ hap _ _).set_ hap _ _).set_ hap _ _


set_option maxHeartbeats 1000000 in
set_option maxRecDepth 100000 in
theorem TrySend_any (a : Int) (b : Int) (w : World) : Calls Tryz.prog 107 #[.int .i64 a, .int .i64 b] w (RetSel true [⟨1, a, b⟩] w) := by
  go_enter Tryz.func107, Tryz.ntmps107
  go_wp2_with fail
  refine (To_any a b _).mono ?_
  rintro e w1 ⟨rfl, hb1⟩
  have hb1' : Below w.heap.size w w1 := ((Below.refl _ _).alloc (Nat.le_refl _) _).trans (hb1.mono (by simp))
  have HX1 := Lib.hid ((Blk.new w 24 (Reqr.cells ⟨0, 0, 0, false, none, 0, 0⟩)).below hb1 (by simp))
  have HB1 := Lib.hid hb1'
  clear hb1 hb1'
  go_wp2_with fail
  refine (Select_any true (some ⟨w1.heap.size, 0, none⟩) 1 1 [⟨1, a, b⟩] _ rfl (by omega) (Blk.rd (cs := rows [(⟨1, a, b⟩ : Cse)]) (blk_new rfl))).mono ?_
  rintro e w2 ⟨A', n, c', rfl, hq, hn, hab, hb2⟩
  have hb12 : Below w1.heap.size w1 w2 := ((Below.refl _ _).alloc (Nat.le_refl _) _).trans (hb2.mono (by simp))
  have HQ := Lib.hid hq
  have HB2 := Lib.hid (HB1.out.trans (hb12.mono HB1.out.size))
  have hbx := HX1.out.below hb12 HX1.out.lt
  have hx1 := HX1.out.lt
  have HX := Lib.hid hbx
  have HN := Lib.hid hn
  have HAB := Lib.hid (fun b o h => Nat.lt_trans hx1 (Nat.lt_of_lt_of_le (Nat.lt_succ_self _) (by have := hab b o h; simp at this; omega)) : ∀ b o, A' = some ⟨b, o, none⟩ → w.heap.size < b)
  obtain ⟨x0, x1, x2, x3, x4⟩ := reqBox hbx
  have f0 := hbx.frozen 0
  have f1 := hbx.frozen 1
  have f2 := hbx.frozen 2
  have f3 := hbx.frozen 3
  have f4 := hbx.frozen 4
  have hlt := hbx.lt
  clear hq hb2 hb12 hbx HX1 HB1 hn hab hx1
  simp only at x0 x1 x2 x3 x4
  go_wp2
  obtain ⟨hB, hL⟩ := req_put HX.out ⟨3, 0, 0, true, A', n, c'⟩
  have hl := req_load hB
  have hbl := HB2.out.trans (hL _ (Nat.le_refl _))
  have hr := HQ.out.rd
  have hap : ∀ b o, A' = some ⟨b, o, none⟩ → b ≠ w.heap.size := fun b o h => by have := HAB.out b o h; omega
  refine bodyPost_ret (v := reqV ⟨3, 0, 0, true, A', n, c'⟩) (ret_cell (g := w.heap.size) rfl rfl hl) rfl ?_
  refine ⟨A', n, c', rfl, ⟨HQ.out.len, ?_⟩, HN.out, HAB.out, hbl⟩
  exact ((((hr.set_ hap _ _).set_ hap _ _).set_ hap _ _).set_ hap _ _).set_ hap _ _


set_option maxHeartbeats 1000000 in
set_option maxRecDepth 100000 in
theorem TryRecv_any (a : Int) (w : World) : Calls Tryz.prog 108 #[.int .i64 a] w (RetSel true [⟨2, a, 0⟩] w) := by
  go_enter Tryz.func108, Tryz.ntmps108
  go_wp2_with fail
  refine (From_any a _).mono ?_
  rintro e w1 ⟨rfl, hb1⟩
  have hb1' : Below w.heap.size w w1 := ((Below.refl _ _).alloc (Nat.le_refl _) _).trans (hb1.mono (by simp))
  have HX1 := Lib.hid ((Blk.new w 24 (Reqr.cells ⟨0, 0, 0, false, none, 0, 0⟩)).below hb1 (by simp))
  have HB1 := Lib.hid hb1'
  clear hb1 hb1'
  go_wp2_with fail
  refine (Select_any true (some ⟨w1.heap.size, 0, none⟩) 1 1 [⟨2, a, 0⟩] _ rfl (by omega) (Blk.rd (cs := rows [(⟨2, a, 0⟩ : Cse)]) (blk_new rfl))).mono ?_
  rintro e w2 ⟨A', n, c', rfl, hq, hn, hab, hb2⟩
  have hb12 : Below w1.heap.size w1 w2 := ((Below.refl _ _).alloc (Nat.le_refl _) _).trans (hb2.mono (by simp))
  have HQ := Lib.hid hq
  have HB2 := Lib.hid (HB1.out.trans (hb12.mono HB1.out.size))
  have hbx := HX1.out.below hb12 HX1.out.lt
  have hx1 := HX1.out.lt
  have HX := Lib.hid hbx
  have HN := Lib.hid hn
  have HAB := Lib.hid (fun b o h => Nat.lt_trans hx1 (Nat.lt_of_lt_of_le (Nat.lt_succ_self _) (by have := hab b o h; simp at this; omega)) : ∀ b o, A' = some ⟨b, o, none⟩ → w.heap.size < b)
  obtain ⟨x0, x1, x2, x3, x4⟩ := reqBox hbx
  have f0 := hbx.frozen 0
  have f1 := hbx.frozen 1
  have f2 := hbx.frozen 2
  have f3 := hbx.frozen 3
  have f4 := hbx.frozen 4
  have hlt := hbx.lt
  clear hq hb2 hb12 hbx HX1 HB1 hn hab hx1
  simp only at x0 x1 x2 x3 x4
  go_wp2
  obtain ⟨hB, hL⟩ := req_put HX.out ⟨3, 0, 0, true, A', n, c'⟩
  have hl := req_load hB
  have hbl := HB2.out.trans (hL _ (Nat.le_refl _))
  have hr := HQ.out.rd
  have hap : ∀ b o, A' = some ⟨b, o, none⟩ → b ≠ w.heap.size := fun b o h => by have := HAB.out b o h; omega
  refine bodyPost_ret (v := reqV ⟨3, 0, 0, true, A', n, c'⟩) (ret_cell (g := w.heap.size) rfl rfl hl) rfl ?_
  refine ⟨A', n, c', rfl, ⟨HQ.out.len, ?_⟩, HN.out, HAB.out, hbl⟩
  exact ((((hr.set_ hap _ _).set_ hap _ _).set_ hap _ _).set_ hap _ _).set_ hap _ _


end Go.Proofs.YtalkllfgedacoaaGreatDoor

namespace Go.Proofs.YtalkllfgedacoaaGreatDoor
open Go.RowKit Go.Sort

def rone24No (s : ByteArray) (w : World) (e : Ending) (w' : World) : Prop := caseQ s = none ∧ e = .returned (.tuple #[cseV Cse.none, .bool false]) ∧ Below w.heap.size w w'
def rone24Ok (s : ByteArray) (w : World) (e : Ending) (w' : World) : Prop := ∃ k, caseQ s = some k ∧ e = .returned (.tuple #[cseV k, .bool true]) ∧ Below w.heap.size w w'

set_option maxHeartbeats 16000000 in
set_option maxRecDepth 100000 in
theorem rone24_any (s : ByteArray) (w : World) (hs : s.size ≤ 1073741824) :
    Calls Tryz.prog 140 #[.string s] w fun e w' => rone24No s w e w' ∨ rone24Ok s w e w' := by
  have HSP := Lib.hid (fun W (_ : True) => (show Calls Tryz.prog 49 #[.string s, .int .u8 58] W (SplitPost 58 s W) from rSplitC_any 58 s W (by omega)))
  have hwp : 0 < (wordsC 58 s).length := by rw [wordsC_len]; omega
  have hwl := wordsC_le 58 s
  have HWZ := Lib.hid (wordsC_size 58 s)
  have HQ : RowKit.Hid (caseQ s = match numsQ 4294967295 (wordsC 58 s).tail with
    | none => none
    | some n => caseN ((wordsC 58 s).getD 0 ⟨#[]⟩) n) := Lib.hid (by unfold caseQ; cases numsQ 4294967295 (wordsC 58 s).tail <;> rfl)

  unfold SplitPost at HSP
  generalize wordsC 58 s = words at *
  generalize hn : words.length = n at *
  have HN := Lib.hid hn
  obtain ⟨m, hm⟩ : ∃ m, n = m + 1 := ⟨n - 1, by omega⟩
  subst hm
  have HTL : RowKit.Hid (words.tail.length = m) := Lib.hid (by rw [List.length_tail, hn]; rfl)
  clear hn
  have hhead : words.getD 0 ⟨#[]⟩ = words.getD 0 ⟨#[]⟩ := rfl
  go_enter Tryz.func140, Tryz.ntmps140
  go_upto_region 2 with (go_at_call 49; refine (HSP.out _ trivial).mono ?_; rintro e w1 ⟨L, cp, rfl, hcp, hLw, hR, hb1⟩; have HR := Lib.hid hR; have HRR := Lib.hid ((blk_new (w := w) (t := 110) (cs := Cse.cells Cse.none) rfl).below hb1 (by simp)); have HB1 := Lib.hid (((Below.refl w.heap.size w).alloc (Nat.le_refl _) _).trans (hb1.mono (by simp))); clear hR hb1 hLw)
  obtain ⟨hLl, x0⟩ := rd_head HR.out (by rw [HN.out]; omega)
  generalize words.getD 0 ⟨#[]⟩ = h at *
  have HRT := Lib.hid (rd_tail HR.out (fun e => by have := HN.out; rw [e] at this; simp at this))
  by_cases hcp1 : cp = 1
  · obtain rfl : m = 0 := by omega
    have HV : RowKit.Hid (caseQ s = none) := Lib.hid (by
      rw [HQ.out, List.eq_nil_of_length_eq_zero HTL.out]
      exact if_pos (.inl rfl))
    subst hcp1
    have HNB := Lib.hid (rnumbers24_any 4294967295 (some ⟨L, 0, none⟩) 0 0 ([] : List ByteArray) w1 (Nat.le_refl _) (by omega) rfl (Nat.zero_le _) (.inl rfl) (fun x hx => by cases hx))
    go_upto_region 3 with (go_at_call 87; refine HNB.out.mono ?_; rintro e w2 (⟨h1, _⟩ | ⟨x, A, c, h1, rfl, hown, hb2⟩); · cases h1)
    have H2R := Lib.hid (HRR.out.below hb2 HRR.out.lt)
    have H2B := Lib.hid (HB1.out.trans (hb2.mono HB1.out.size))
    injection h1 with h1
    subst h1
    clear hown hb2 x0
    go_upto_region 4 with (fail)
    refine wp_region_lit ?_
    refine wpList_buildTo rfl 110 #[] rfl (some 28) rfl (Cse.cells Cse.none).toArray (by kernel_rfl) ?_
    refine wpList_store_row rfl 110 (.tmp 2) (.tmp 28) rfl w.heap.size (Cse.cells Cse.none).toArray rfl rfl 110 (Cse.cells Cse.none).toArray H2R.out (by kernel_rfl) (by kernel_rfl) (by kernel_rfl) ?_
    rw [setRow_self w2 w.heap.size _ _ _ H2R.out]
    go_wp2
    refine bodyPost_ret (v := .tuple #[cseV Cse.none, .bool false]) (ret_cell2 (g := w.heap.size) (v := cseV Cse.none) rfl rfl rfl (cse_load H2R.out)) rfl ?_
    exact .inl ⟨HV.out, rfl, H2B.out⟩
  · have HNB := Lib.hid (rnumbers24_any 4294967295 (some ⟨L, 1, none⟩) m (cp - 1) words.tail w1 (Nat.le_refl _) (by omega) HTL.out (by omega) HRT.out (fun x hx => by have := HWZ.out x (List.mem_of_mem_tail hx); omega))
    cases hq : numsQ 4294967295 words.tail with
    | none =>
      have HV : RowKit.Hid (caseQ s = none) := Lib.hid (by rw [HQ.out, hq])
      unfold NumsPost NumsNo NumsOk at HNB
      rw [hq] at HNB
      clear hq
      go_wp2_with fail
      refine HNB.out.mono ?_
      rintro e w2 (⟨_, rfl, hb2⟩ | ⟨x, A, c, h1, _⟩)
      · have H2R := Lib.hid (HRR.out.below hb2 HRR.out.lt)
        have H2B := Lib.hid (HB1.out.trans (hb2.mono HB1.out.size))
        clear hb2 x0
        go_upto_region 4 with (fail)
        refine wp_region_lit ?_
        refine wpList_buildTo rfl 110 #[] rfl (some 28) rfl (Cse.cells Cse.none).toArray (by kernel_rfl) ?_
        refine wpList_store_row rfl 110 (.tmp 2) (.tmp 28) rfl w.heap.size (Cse.cells Cse.none).toArray rfl rfl 110 (Cse.cells Cse.none).toArray H2R.out (by kernel_rfl) (by kernel_rfl) (by kernel_rfl) ?_
        rw [setRow_self w2 w.heap.size _ _ _ H2R.out]
        go_wp2
        refine bodyPost_ret (v := .tuple #[cseV Cse.none, .bool false]) (ret_cell2 (g := w.heap.size) (v := cseV Cse.none) rfl rfl rfl (cse_load H2R.out)) rfl ?_
        exact .inl ⟨HV.out, rfl, H2B.out⟩

      · cases h1
    | some n =>
      have hnl : n.length = m := (numsQ_len hq).trans HTL.out
      have HNL := Lib.hid hnl
      have HLE := Lib.hid (numsQ_le hq)
      have HV : RowKit.Hid (caseQ s = caseN h n) := Lib.hid (by rw [HQ.out, hq])
      unfold NumsPost NumsNo NumsOk at HNB
      rw [hq] at HNB
      clear hq hnl
      go_wp2_with fail
      refine HNB.out.mono ?_
      rintro e w2 (⟨h1, _⟩ | ⟨x, A, c, h1, rfl, hown, hb2⟩)
      · cases h1
      injection h1 with h1
      subst h1
      rw [HNL.out] at hown ⊢
      have H2R := Lib.hid (HRR.out.below hb2 HRR.out.lt)
      have H2B := Lib.hid (HB1.out.trans (hb2.mono HB1.out.size))
      have x2 := hb2.cell (p := ⟨L, 0, none⟩) hLl
      rw [x0] at x2
      have hL2 := Nat.lt_of_lt_of_le hLl hb2.size
      clear hb2 x0
      by_cases hm0 : m = 0
      · subst hm0
        have HV2 : RowKit.Hid (caseQ s = none) := Lib.hid (by rw [HV.out]; exact if_pos (.inl HNL.out))
        clear HV
        have HV := HV2
        clear HV2 hown
        go_upto_region 4 with (fail)
        refine wp_region_lit ?_
        refine wpList_buildTo rfl 110 #[] rfl (some 28) rfl (Cse.cells Cse.none).toArray (by kernel_rfl) ?_
        refine wpList_store_row rfl 110 (.tmp 2) (.tmp 28) rfl w.heap.size (Cse.cells Cse.none).toArray rfl rfl 110 (Cse.cells Cse.none).toArray H2R.out (by kernel_rfl) (by kernel_rfl) (by kernel_rfl) ?_
        rw [setRow_self w2 w.heap.size _ _ _ H2R.out]
        go_wp2
        refine bodyPost_ret (v := .tuple #[cseV Cse.none, .bool false]) (ret_cell2 (g := w.heap.size) (v := cseV Cse.none) rfl rfl rfl (cse_load H2R.out)) rfl ?_
        exact .inl ⟨HV.out, rfl, H2B.out⟩

      · obtain ⟨bb, rfl, hbw, hbl, hcs⟩ := nums_cell hown (by omega)
        have y0 := hcs 0 (by rw [HNL.out]; omega)
        have HCS := Lib.hid hcs
        have hn0 : n.getD 0 0 ≤ 4294967295 := HLE.out _ (by rw [List.getD, List.getElem?_eq_getElem (by rw [HNL.out]; omega)]; exact List.getElem_mem _)
        have HG0 : RowKit.Hid (n.getD 0 0 = n.getD 0 0) := Lib.hid rfl
        clear hcs hown
        generalize hgn0 : n.getD 0 0 = n0 at *
        have HN0 := Lib.hid hgn0
        clear hgn0 HG0
        have e0 : ((m : Int) == 0) = false := by rw [beq_eq_false_iff_ne]; omega
        by_cases h655 : 65535 < n0
        · have q5 : (65535 : Int) < (n0 : Int) := by omega
          have HV2 : RowKit.Hid (caseQ s = none) := Lib.hid (by rw [HV.out]; exact if_pos (.inr (by rw [HN0.out]; exact h655)))
          clear HV
          have HV := HV2
          clear HV2
          go_upto_region 4 with (fail)
          refine wp_region_lit ?_
          refine wpList_buildTo rfl 110 #[] rfl (some 28) rfl (Cse.cells Cse.none).toArray (by kernel_rfl) ?_
          refine wpList_store_row rfl 110 (.tmp 2) (.tmp 28) rfl w.heap.size (Cse.cells Cse.none).toArray rfl rfl 110 (Cse.cells Cse.none).toArray H2R.out (by kernel_rfl) (by kernel_rfl) (by kernel_rfl) ?_
          rw [setRow_self w2 w.heap.size _ _ _ H2R.out]
          go_wp2
          refine bodyPost_ret (v := .tuple #[cseV Cse.none, .bool false]) (ret_cell2 (g := w.heap.size) (v := cseV Cse.none) rfl rfl rfl (cse_load H2R.out)) rfl ?_
          exact .inl ⟨HV.out, rfl, H2B.out⟩

        · have q5 : ¬ (65535 : Int) < (n0 : Int) := by omega
          have HV2 : RowKit.Hid (caseQ s = if h = w_sendS ∧ n.length = 2 then some ⟨1, n.getD 0 0, n.getD 1 0⟩ else if h = w_recvS ∧ n.length = 1 then some ⟨2, n.getD 0 0, 0⟩ else none) := Lib.hid (by
            rw [HV.out]
            exact if_neg (fun e => by
              rcases e with e | e
              · have := HNL.out; omega
              · rw [HN0.out] at e; exact h655 e))
          clear HV
          rw [HNL.out, HN0.out] at HV2
          by_cases hsd : h = w_sendS
          · have e1 : (h.toList == [115, 101, 110, 100]) = true := by rw [hsd]; decide +kernel
            have e2 : (h.toList == [114, 101, 99, 118]) = false := by rw [hsd]; decide +kernel
            by_cases hm2 : m = 2
            · subst hm2
              have HV : RowKit.Hid (caseQ s = some ⟨1, n0, n.getD 1 0⟩) := Lib.hid (by rw [HV2.out, if_pos ⟨hsd, rfl⟩])
              have y1 := HCS.out 1 (by rw [HNL.out]; omega)
              generalize n.getD 1 0 = n1 at *
              clear HV2 hsd HCS
              have r0 := H2R.out.cell (i := 0) rfl
              have r1 := H2R.out.cell (i := 1) rfl
              have r2 := H2R.out.cell (i := 2) rfl
              have t0 := H2R.out.frozen 0
              have t1 := H2R.out.frozen 1
              have t2 := H2R.out.frozen 2
              have hrl := H2R.out.lt

              go_upto_region 6 with (fail)
              go_region
              go_wp2
              have hl : Blk ((((w2.setCell ⟨w.heap.size, 0, none⟩ (.int .i64 1)).setCell ⟨w.heap.size, 1, none⟩ (.int .i64 (n0 : Int))).setCell ⟨w.heap.size, 2, none⟩ (.int .i64 (n1 : Int))) : World) w.heap.size 110 (Cse.cells ⟨1, n0, (n1 : Int)⟩) := ((H2R.out.set_ 0 (.int .i64 1)).set_ 1 (.int .i64 (n0 : Int))).set_ 2 (.int .i64 (n1 : Int))
              refine bodyPost_ret (v := .tuple #[cseV ⟨1, n0, (n1 : Int)⟩, .bool true]) (ret_cell2 (g := w.heap.size) (v := cseV ⟨1, n0, (n1 : Int)⟩) rfl rfl rfl (cse_load (x := ⟨1, n0, (n1 : Int)⟩) hl)) rfl ?_
              have hbz := ((H2B.out.setCell (p := ⟨w.heap.size, 0, none⟩) (Nat.le_refl _) (.int .i64 1)).setCell (p := ⟨w.heap.size, 1, none⟩) (Nat.le_refl _) (.int .i64 (n0 : Int))).setCell (p := ⟨w.heap.size, 2, none⟩) (Nat.le_refl _) (.int .i64 (n1 : Int))
              exact .inr ⟨_, HV.out, rfl, ⟨hbz.os, hbz.tape, hbz.output, hbz.size, hbz.block⟩⟩

            · have e3 : ((m : Int) == 2) = false := by rw [beq_eq_false_iff_ne]; omega
              have HV : RowKit.Hid (caseQ s = none) := Lib.hid (by rw [HV2.out, if_neg (fun e => hm2 e.2), if_neg (fun e => by rw [hsd] at e; exact absurd e.1 (by decide +kernel))])
              clear HV2 hsd HCS
              go_upto_region 9 with (fail)
              refine wp_region_lit ?_
              refine wpList_buildTo rfl 110 #[] rfl (some 58) rfl (Cse.cells Cse.none).toArray (by kernel_rfl) ?_
              refine wpList_store_row rfl 110 (.tmp 2) (.tmp 58) rfl w.heap.size (Cse.cells Cse.none).toArray rfl rfl 110 (Cse.cells Cse.none).toArray H2R.out (by kernel_rfl) (by kernel_rfl) (by kernel_rfl) ?_
              rw [setRow_self w2 w.heap.size _ _ _ H2R.out]
              go_wp2
              refine bodyPost_ret (v := .tuple #[cseV Cse.none, .bool false]) (ret_cell2 (g := w.heap.size) (v := cseV Cse.none) rfl rfl rfl (cse_load H2R.out)) rfl ?_
              exact .inl ⟨HV.out, rfl, H2B.out⟩

          · have e1 : (h.toList == [115, 101, 110, 100]) = false := eqL hsd (by decide +kernel)
            by_cases hrv : h = w_recvS
            · have e2 : (h.toList == [114, 101, 99, 118]) = true := by rw [hrv]; decide +kernel
              by_cases hm1 : m = 1
              · subst hm1
                have HV : RowKit.Hid (caseQ s = some ⟨2, n0, 0⟩) := Lib.hid (by rw [HV2.out, if_neg (fun e => hsd e.1), if_pos ⟨hrv, rfl⟩])
                clear HV2 hsd hrv HCS
                have r0 := H2R.out.cell (i := 0) rfl
                have r1 := H2R.out.cell (i := 1) rfl
                have r2 := H2R.out.cell (i := 2) rfl
                have t0 := H2R.out.frozen 0
                have t1 := H2R.out.frozen 1
                have t2 := H2R.out.frozen 2
                have hrl := H2R.out.lt
                go_wp2
                have hl : Blk ((((w2.setCell ⟨w.heap.size, 0, none⟩ (.int .i64 2)).setCell ⟨w.heap.size, 1, none⟩ (.int .i64 (n0 : Int))).setCell ⟨w.heap.size, 2, none⟩ (.int .i64 0)) : World) w.heap.size 110 (Cse.cells ⟨2, n0, 0⟩) := ((H2R.out.set_ 0 (.int .i64 2)).set_ 1 (.int .i64 (n0 : Int))).set_ 2 (.int .i64 0)
                refine bodyPost_ret (v := .tuple #[cseV ⟨2, n0, 0⟩, .bool true]) (ret_cell2 (g := w.heap.size) (v := cseV ⟨2, n0, 0⟩) rfl rfl rfl (cse_load (x := ⟨2, n0, 0⟩) hl)) rfl ?_
                have hbz := ((H2B.out.setCell (p := ⟨w.heap.size, 0, none⟩) (Nat.le_refl _) (.int .i64 2)).setCell (p := ⟨w.heap.size, 1, none⟩) (Nat.le_refl _) (.int .i64 (n0 : Int))).setCell (p := ⟨w.heap.size, 2, none⟩) (Nat.le_refl _) (.int .i64 0)
                exact .inr ⟨_, HV.out, rfl, hbz⟩

              · have e3 : ((m : Int) == 1) = false := by rw [beq_eq_false_iff_ne]; omega
                have HV : RowKit.Hid (caseQ s = none) := Lib.hid (by rw [HV2.out, if_neg (fun e => hsd e.1), if_neg (fun e => hm1 e.2)])
                clear HV2 hsd hrv HCS
                go_upto_region 9 with (fail)
                refine wp_region_lit ?_
                refine wpList_buildTo rfl 110 #[] rfl (some 58) rfl (Cse.cells Cse.none).toArray (by kernel_rfl) ?_
                refine wpList_store_row rfl 110 (.tmp 2) (.tmp 58) rfl w.heap.size (Cse.cells Cse.none).toArray rfl rfl 110 (Cse.cells Cse.none).toArray H2R.out (by kernel_rfl) (by kernel_rfl) (by kernel_rfl) ?_
                rw [setRow_self w2 w.heap.size _ _ _ H2R.out]
                go_wp2
                refine bodyPost_ret (v := .tuple #[cseV Cse.none, .bool false]) (ret_cell2 (g := w.heap.size) (v := cseV Cse.none) rfl rfl rfl (cse_load H2R.out)) rfl ?_
                exact .inl ⟨HV.out, rfl, H2B.out⟩

            · have e2 : (h.toList == [114, 101, 99, 118]) = false := eqL hrv (by decide +kernel)
              have HV : RowKit.Hid (caseQ s = none) := Lib.hid (by rw [HV2.out, if_neg (fun e => hsd e.1), if_neg (fun e => hrv e.1)])
              clear HV2 hsd hrv HCS
              go_upto_region 9 with (fail)
              refine wp_region_lit ?_
              refine wpList_buildTo rfl 110 #[] rfl (some 58) rfl (Cse.cells Cse.none).toArray (by kernel_rfl) ?_
              refine wpList_store_row rfl 110 (.tmp 2) (.tmp 58) rfl w.heap.size (Cse.cells Cse.none).toArray rfl rfl 110 (Cse.cells Cse.none).toArray H2R.out (by kernel_rfl) (by kernel_rfl) (by kernel_rfl) ?_
              rw [setRow_self w2 w.heap.size _ _ _ H2R.out]
              go_wp2
              refine bodyPost_ret (v := .tuple #[cseV Cse.none, .bool false]) (ret_cell2 (g := w.heap.size) (v := cseV Cse.none) rfl rfl rfl (cse_load H2R.out)) rfl ?_
              exact .inl ⟨HV.out, rfl, H2B.out⟩


end Go.Proofs.YtalkllfgedacoaaGreatDoor
