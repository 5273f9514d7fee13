/- csp: how calls are made; Waits: walked. -/
import Derived.Test.YtalkllfgedacoaaGreatDoorD3
import Derived.Test.YtalkllfgedacoaaGreatDoorShelfPu
import Derived.Test.YtalkllfgedacoaaGreatDoorD11
import Derived.Test.YtalkllfgedacoaaGreatDoorD2
import Derived.Laws.ResultCell
import Derived.Laws.Rows
namespace Go.Proofs.YtalkllfgedacoaaGreatDoor
open Go.RowKit Go.Sort

set_option maxHeartbeats 8000000 in
set_option maxRecDepth 100000 in
theorem rNumber_any (most : Nat) (s : ByteArray) (w : World) (hm : most ≤ 4294967295) (h9 : 9 ≤ most) (hs : s.size ≤ 4294967296) :
    Calls Tryz.prog 86 #[.string s, .int .i64 most] w fun e w' => e = .returned (.tuple #[.int .i64 ((numQ most s).getD 0 : Nat), .bool (numQ most s).isSome]) ∧ Below w.heap.size w w' := by
  have HNR := Lib.hid (numR_eq h9 hm s)
  have hsz : s.size = s.data.toList.length := by rw [Array.length_toList]; rfl
  have HSZ := Lib.hid hsz
  clear hsz
  by_cases hbad : s.size = 0 ∨ 19 < s.size ∨ (1 < s.size ∧ s.data.toList.getD 0 0 = 48)
  · have HV : RowKit.Hid (numQ most s = none) := Lib.hid (by rw [← HNR.out]; unfold numR; rw [if_pos hbad])
    clear HNR
    generalize numQ most s = R at *
    by_cases h0 : s.size = 0
    · go_enter Tryz.func86, Tryz.ntmps86
      go_wp2
      go_ret2
      rw [HV.out]
      exact ⟨rfl, Below.refl _ _⟩
    · by_cases h19 : 19 < s.size
      · go_enter Tryz.func86, Tryz.ntmps86
        go_wp2
        go_ret2
        rw [HV.out]
        exact ⟨rfl, Below.refl _ _⟩
      · have h1 : 1 < s.size := by omega
        have hc : s.data.toList.getD 0 0 = 48 := by
          rcases hbad with h | h | h
          · exact absurd h h0
          · exact absurd h h19
          · exact h.2
        have hlt : 0 < s.size := by omega
        have hg : s[0] = 48 := by
          have hl : 0 < s.data.toList.length := by rw [← HSZ.out]; exact hlt
          rw [List.getD, List.getElem?_eq_getElem hl] at hc
          exact hc
        clear hbad hc
        go_enter Tryz.func86, Tryz.ntmps86
        go_wp2
        go_ret2
        rw [HV.out]
        exact ⟨rfl, Below.refl _ _⟩
  · have h0 : ¬ s.size = 0 := fun e => hbad (.inl e)
    have h19 : ¬ 19 < s.size := fun e => hbad (.inr (.inl e))
    have hz : ¬ (1 < s.size ∧ s.data.toList.getD 0 0 = 48) := fun e => hbad (.inr (.inr e))
    have HV : RowKit.Hid (numQ most s = match runR most s.data.toList 0 with
      | none => none
      | some n => if n ≤ most then some n else none) := Lib.hid (by rw [← HNR.out]; unfold numR; rw [if_neg hbad]; cases runR most s.data.toList 0 <;> rfl)
    clear HNR hbad
    have hlt0 : 0 < s.size := by omega
    have hg0 : s.data.toList.getD 0 0 = s[0] := by
      have hl : 0 < s.data.toList.length := by rw [← HSZ.out]; exact hlt0
      rw [List.getD, List.getElem?_eq_getElem hl]; rfl
    rw [hg0] at hz
    clear hg0
    have e0 : ((s.size : Int) == 0) = false := by rw [beq_eq_false_iff_ne]; omega
    have q19 : ¬ (19 : Int) < (s.size : Int) := by omega
    generalize hR : numQ most s = R at *
    clear hR
    by_cases h1 : 1 < s.size
    · have q11 : (1 : Int) < (s.size : Int) := by omega
      have e48 : ((s[0].toNat : Int) == 48) = false := by
        rw [beq_eq_false_iff_ne]
        intro e
        apply hz
        refine ⟨h1, ?_⟩
        apply UInt8.toNat_inj.1
        show s[0].toNat = 48
        omega
      clear hz
      go_enter Tryz.func86, Tryz.ntmps86
      go_wp2
      go_loopg [6, 7] s.size (fun gg nv iv wr => ∃ k n : Nat, k ≤ s.size ∧ gg = s.size - k ∧ iv = .int .i64 k ∧ nv = .int .i64 n ∧ n ≤ most ∧ runR most (s.data.toList.take k) 0 = some n ∧ wr = w)
      case atStart => exact ⟨0, 0, Nat.zero_le _, rfl, rfl, rfl, Nat.zero_le _, rfl, rfl⟩
      case round =>
        obtain ⟨k, n, hk, hg, rfl, rfl, hnm, hrun, rfl⟩ := hrel
        have HG := Lib.hid hg
        have HRUN := Lib.hid hrun
        clear hg hrun
        by_cases hlt : k < s.size
        · have q1 : (k : Int) < (s.size : Int) := by omega
          have hkl : k < s.data.toList.length := by rw [← HSZ.out]; exact hlt
          have HSTEP := Lib.hid (runR_step hkl HRUN.out)
          have HBT := Lib.hid (fun m (h : runR most (s.data.toList.take (k + 1)) 0 = some m) => runR_le h9 _ 0 m (Nat.zero_le _) h)
          rw [show s.data.toList.getD k 0 = s[k]'hlt by rw [List.getD, List.getElem?_eq_getElem hkl]; rfl] at HSTEP
          clear hkl
          generalize hb : s[k]'hlt = b at *
          have HBK := Lib.hid hb
          have hb8 := b.toNat_lt
          by_cases c1 : b.toNat < 48
          · have q2 : (b.toNat : Int) - 48 < 0 := by omega
            have HD := Lib.hid (show runR most s.data.toList 0 = none from runR_dead (k := k + 1) (by rw [HSTEP.out, if_neg (by omega)]))
            go_wp2
            go_ret2
            rw [HV.out, HD.out]
            exact ⟨rfl, Below.refl _ _⟩
          · by_cases c2 : 57 < b.toNat
            · have q2 : ¬ (b.toNat : Int) - 48 < 0 := by omega
              have q3 : 9 < (b.toNat : Int) - 48 := by omega
              have HD := Lib.hid (show runR most s.data.toList 0 = none from runR_dead (k := k + 1) (by rw [HSTEP.out, if_neg (by omega)]))
              go_wp2
              go_ret2
              rw [HV.out, HD.out]
              exact ⟨rfl, Below.refl _ _⟩
            · have q2 : ¬ (b.toNat : Int) - 48 < 0 := by omega
              have q3 : ¬ 9 < (b.toNat : Int) - 48 := by omega
              by_cases c3 : n ≤ (most - (b.toNat - 48)) / 10
              · have q4 : ¬ ((most : Int) - ((b.toNat : Int) - 48)) / 10 < (n : Int) := by omega
                have q5 : 10 * (n : Int) + ((b.toNat : Int) - 48) ≤ 4294967295 := by omega
                have q6 : 0 ≤ 10 * (n : Int) + ((b.toNat : Int) - 48) := by omega
                have q7 : 0 ≤ (most : Int) - ((b.toNat : Int) - 48) := by omega
                have HD := Lib.hid (show runR most (s.data.toList.take (k + 1)) 0 = some (10 * n + (b.toNat - 48)) by rw [HSTEP.out, if_pos (by omega)])
                go_wp2
                go_roundg (s.size - (k + 1))
                case measure => rw [HG.out]; omega
                case rel => exact ⟨k + 1, 10 * n + (b.toNat - 48), by omega, rfl, by go_num, congrArg (Value.int .i64) (by omega), HBT.out _ HD.out, HD.out, rfl⟩
              · have q4 : ((most : Int) - ((b.toNat : Int) - 48)) / 10 < (n : Int) := by omega
                have q7 : 0 ≤ (most : Int) - ((b.toNat : Int) - 48) := by omega
                have HD := Lib.hid (show runR most s.data.toList 0 = none from runR_dead (k := k + 1) (by rw [HSTEP.out, if_neg (by omega)]))
                go_wp2
                go_ret2
                rw [HV.out, HD.out]
                exact ⟨rfl, Below.refl _ _⟩
        · obtain rfl : k = s.size := by omega
          have q1 : ¬ (s.size : Int) < (s.size : Int) := by omega
          have HD : RowKit.Hid (runR most s.data.toList 0 = some n) := Lib.hid (by
            have := HRUN.out
            rwa [HSZ.out, List.take_length] at this)
          have q2 : (n : Int) ≤ (most : Int) := by omega
          go_wp2
          go_ret2
          rw [HV.out, HD.out]
          simp only
          rw [if_pos hnm]
          exact ⟨rfl, Below.refl _ _⟩
    · have q11 : ¬ (1 : Int) < (s.size : Int) := by omega
      clear hz
      go_enter Tryz.func86, Tryz.ntmps86
      go_wp2
      go_loopg [6, 7] s.size (fun gg nv iv wr => ∃ k n : Nat, k ≤ s.size ∧ gg = s.size - k ∧ iv = .int .i64 k ∧ nv = .int .i64 n ∧ n ≤ most ∧ runR most (s.data.toList.take k) 0 = some n ∧ wr = w)
      case atStart => exact ⟨0, 0, Nat.zero_le _, rfl, rfl, rfl, Nat.zero_le _, rfl, rfl⟩
      case round =>
        obtain ⟨k, n, hk, hg, rfl, rfl, hnm, hrun, rfl⟩ := hrel
        have HG := Lib.hid hg
        have HRUN := Lib.hid hrun
        clear hg hrun
        by_cases hlt : k < s.size
        · have q1 : (k : Int) < (s.size : Int) := by omega
          have hkl : k < s.data.toList.length := by rw [← HSZ.out]; exact hlt
          have HSTEP := Lib.hid (runR_step hkl HRUN.out)
          have HBT := Lib.hid (fun m (h : runR most (s.data.toList.take (k + 1)) 0 = some m) => runR_le h9 _ 0 m (Nat.zero_le _) h)
          rw [show s.data.toList.getD k 0 = s[k]'hlt by rw [List.getD, List.getElem?_eq_getElem hkl]; rfl] at HSTEP
          clear hkl
          generalize hb : s[k]'hlt = b at *
          have HBK := Lib.hid hb
          have hb8 := b.toNat_lt
          by_cases c1 : b.toNat < 48
          · have q2 : (b.toNat : Int) - 48 < 0 := by omega
            have HD := Lib.hid (show runR most s.data.toList 0 = none from runR_dead (k := k + 1) (by rw [HSTEP.out, if_neg (by omega)]))
            go_wp2
            go_ret2
            rw [HV.out, HD.out]
            exact ⟨rfl, Below.refl _ _⟩
          · by_cases c2 : 57 < b.toNat
            · have q2 : ¬ (b.toNat : Int) - 48 < 0 := by omega
              have q3 : 9 < (b.toNat : Int) - 48 := by omega
              have HD := Lib.hid (show runR most s.data.toList 0 = none from runR_dead (k := k + 1) (by rw [HSTEP.out, if_neg (by omega)]))
              go_wp2
              go_ret2
              rw [HV.out, HD.out]
              exact ⟨rfl, Below.refl _ _⟩
            · have q2 : ¬ (b.toNat : Int) - 48 < 0 := by omega
              have q3 : ¬ 9 < (b.toNat : Int) - 48 := by omega
              by_cases c3 : n ≤ (most - (b.toNat - 48)) / 10
              · have q4 : ¬ ((most : Int) - ((b.toNat : Int) - 48)) / 10 < (n : Int) := by omega
                have q5 : 10 * (n : Int) + ((b.toNat : Int) - 48) ≤ 4294967295 := by omega
                have q6 : 0 ≤ 10 * (n : Int) + ((b.toNat : Int) - 48) := by omega
                have q7 : 0 ≤ (most : Int) - ((b.toNat : Int) - 48) := by omega
                have HD := Lib.hid (show runR most (s.data.toList.take (k + 1)) 0 = some (10 * n + (b.toNat - 48)) by rw [HSTEP.out, if_pos (by omega)])
                go_wp2
                go_roundg (s.size - (k + 1))
                case measure => rw [HG.out]; omega
                case rel => exact ⟨k + 1, 10 * n + (b.toNat - 48), by omega, rfl, by go_num, congrArg (Value.int .i64) (by omega), HBT.out _ HD.out, HD.out, rfl⟩
              · have q4 : ((most : Int) - ((b.toNat : Int) - 48)) / 10 < (n : Int) := by omega
                have q7 : 0 ≤ (most : Int) - ((b.toNat : Int) - 48) := by omega
                have HD := Lib.hid (show runR most s.data.toList 0 = none from runR_dead (k := k + 1) (by rw [HSTEP.out, if_neg (by omega)]))
                go_wp2
                go_ret2
                rw [HV.out, HD.out]
                exact ⟨rfl, Below.refl _ _⟩
        · obtain rfl : k = s.size := by omega
          have q1 : ¬ (s.size : Int) < (s.size : Int) := by omega
          have HD : RowKit.Hid (runR most s.data.toList 0 = some n) := Lib.hid (by
            have := HRUN.out
            rwa [HSZ.out, List.take_length] at this)
          have q2 : (n : Int) ≤ (most : Int) := by omega
          go_wp2
          go_ret2
          rw [HV.out, HD.out]
          simp only
          rw [if_pos hnm]
          exact ⟨rfl, Below.refl _ _⟩

end Go.Proofs.YtalkllfgedacoaaGreatDoor

namespace Go.Proofs.YtalkllfgedacoaaGreatDoor
open Go.RowKit Go.Sort Go.Lib

theorem ParseUint64_any (s : ByteArray) (w : World) (hs : s.size ≤ 281474976710656) (h : ErrT w) :
    Calls Tryz.prog 125 #[.string s, .int .i64 10, .int .i64 64] w fun e w' => ∃ (u : Nat) (ev : Value), e = .returned (.tuple #[.int .u64 u, ev]) ∧ Below w.heap.size w w' ∧ ((pu64 s = some u ∧ ev = .nilIface) ∨ (pu64 s = none ∧ ∃ t p, ev = .iface t p)) := by
  obtain ⟨⟨_, e1, h1, k1⟩, ⟨_, e2, h2, k2⟩⟩ := h
  cases hp : Lib.parseUintB 64 s.data.toList
  case ok u =>
    refine (Any.strconv_ParseUint_10_at64_ok Tryz.laysPu14 s (by omega) u hp w).mono ?_
    rintro e w' ⟨rfl, hw⟩
    refine ⟨u, .nilIface, rfl, ?_, .inl ⟨by unfold pu64; rw [hp], rfl⟩⟩
    rcases hw with rfl | rfl
    · exact Below.refl _ _
    · exact bytes_below _ _ _
  · refine (Any.strconv_ParseUint_10_at64_syntax Tryz.laysPu14 s hs hp e1 w h1 k1).mono ?_
    rintro e w' ⟨N, rfl, _, _, hb⟩
    exact ⟨0, _, rfl, hb, .inr ⟨by unfold pu64; rw [hp], _, _, rfl⟩⟩
  · refine (Any.strconv_ParseUint_10_at64_range Tryz.laysPu14 s hs hp e2 w h2 k2).mono ?_
    rintro e w' ⟨N, rfl, _, _, hb⟩
    exact ⟨18446744073709551615, _, rfl, hb, .inr ⟨by unfold pu64; rw [hp], _, _, rfl⟩⟩

theorem puM_le64 (M : Nat) : ∀ (l : List UInt8) (acc u : Nat), acc ≤ M → Lib.parseUintM M acc l = .ok u → u ≤ M
  | [], acc, u, ha, h => by
    rw [Lib.parseUintM] at h
    injection h with h
    omega
  | c :: r, acc, u, ha, h => by
    rw [Lib.parseUintM] at h
    split at h
    · split at h
      · cases h
      · split at h
        · cases h
        · exact puM_le64 M r _ u (by omega) h
    · cases h
theorem pu64_le {s : ByteArray} {u : Nat} (h : pu64 s = some u) : u ≤ 18446744073709551615 := by
  unfold pu64 at h
  split at h
  · rename_i v hv
    injection h with h
    subst h
    unfold Lib.parseUintB at hv
    split at hv
    · cases hv
    · exact puM_le64 _ _ _ _ (by omega) hv
  · cases h

set_option maxHeartbeats 4000000 in
set_option maxRecDepth 100000 in
theorem number24_any (most : Nat) (s : ByteArray) (w : World) (hm : most ≤ 4294967295) (hs : s.size ≤ 281474976710656) (h : ErrT w) (ht : TabT w) :
    Calls Tryz.prog 82 #[.string s, .int .i64 most] w fun e w' => e = .returned (.tuple #[.int .i64 ((numQ most s).getD 0 : Nat), .bool (numQ most s).isSome]) ∧ Below w.heap.size w w' := by
  have HP := Lib.hid (ParseUint64_any s w hs h)
  have HT := Lib.hid ht
  have HN : RowKit.Hid (numQ most s = match pu64 s with
    | some u => if u ≤ most ∧ udecS u = s then some u else none
    | none => none) := Lib.hid rfl
  clear h ht hs
  cases hp : pu64 s with
  | none =>
    have HV := Lib.hid (show numQ most s = none by rw [HN.out, hp])
    rw [hp] at HP
    clear hp HN
    generalize numQ most s = R at *
    go_enter Tryz.func82, Tryz.ntmps82
    go_wp2_with fail
    refine HP.out.mono ?_
    rintro e w1 ⟨u, ev, rfl, hb, ⟨h1, _⟩ | ⟨_, t, p, rfl⟩⟩
    · cases h1
    · have HB := Lib.hid hb
      clear hb
      go_wp2
      go_ret2
      rw [HV.out]
      exact ⟨rfl, HB.out⟩
  | some u =>
    have hle := pu64_le hp
    by_cases hum : u ≤ most
    · have HF := Lib.hid (fun W h => FormatUint10 u (by omega) W h)
      have q0 : ¬ (most : Int) < (u : Int) := by omega
      have q2 : (u : Int) ≤ 4294967295 := by omega
      have q3 : (most : Int) ≤ 4294967295 := by omega
      by_cases hu : udecS u = s
      · have HV := Lib.hid (show numQ most s = some u by rw [HN.out, hp]; exact if_pos ⟨hum, hu⟩)
        rw [hp] at HP
        rw [hu] at HF
        have e1 : (s.toList == s.toList) = true := beq_self_eq_true s.toList
        generalize numQ most s = R at *
        clear hp HN hu
        go_enter Tryz.func82, Tryz.ntmps82
        go_wp2_with fail
        refine HP.out.mono ?_
        rintro e w1 ⟨u', ev, rfl, hb, ⟨h1, rfl⟩ | ⟨h1, _⟩⟩
        · injection h1 with h1
          subst h1
          have HB := Lib.hid hb
          clear hb
          go_wp2_with fail
          refine (HF.out _ (HT.out.below HB.out)).mono ?_
          rintro e w2 ⟨rfl, hb2⟩
          go_wp2
          go_ret2
          rw [HV.out]
          exact ⟨rfl, HB.out.trans (hb2.mono HB.out.size)⟩
        · cases h1
      · have HV := Lib.hid (show numQ most s = none by rw [HN.out, hp]; exact if_neg (fun h => hu h.2))
        have e1 : ((udecS u).toList == s.toList) = false := by
          rw [beq_eq_false_iff_ne]; intro h; exact hu (ByteArray.ext (Array.toList_inj.1 (by rw [← ByteArray.toList_eq, ← ByteArray.toList_eq]; exact h)))
        rw [hp] at HP
        generalize udecS u = x at *
        generalize numQ most s = R at *
        clear hp HN hu
        go_enter Tryz.func82, Tryz.ntmps82
        go_wp2_with fail
        refine HP.out.mono ?_
        rintro e w1 ⟨u', ev, rfl, hb, ⟨h1, rfl⟩ | ⟨h1, _⟩⟩
        · injection h1 with h1
          subst h1
          have HB := Lib.hid hb
          clear hb
          go_wp2_with fail
          refine (HF.out _ (HT.out.below HB.out)).mono ?_
          rintro e w2 ⟨rfl, hb2⟩
          go_wp2
          go_ret2
          rw [HV.out]
          exact ⟨rfl, HB.out.trans (hb2.mono HB.out.size)⟩
        · cases h1
    · have HV := Lib.hid (show numQ most s = none by rw [HN.out, hp]; exact if_neg (fun h => hum h.1))
      have q0 : (most : Int) < (u : Int) := by omega
      have q3 : (most : Int) ≤ 4294967295 := by omega
      rw [hp] at HP
      generalize numQ most s = R at *
      clear hp HN hum
      go_enter Tryz.func82, Tryz.ntmps82
      go_wp2_with fail
      refine HP.out.mono ?_
      rintro e w1 ⟨u', ev, rfl, hb, ⟨h1, rfl⟩ | ⟨h1, _⟩⟩
      · injection h1 with h1
        subst h1
        have HB := Lib.hid hb
        clear hb
        go_wp2
        go_ret2
        rw [HV.out]
        exact ⟨rfl, HB.out⟩
      · cases h1

def NumsNo (most : Nat) (l : List ByteArray) (w : World) (e : Ending) (w' : World) : Prop := numsQ most l = none ∧ e = .returned (.tuple #[.slice none 0 0, .bool false]) ∧ Below w.heap.size w w'
def NumsOk (most : Nat) (l : List ByteArray) (w : World) (e : Ending) (w' : World) : Prop := ∃ x A c, numsQ most l = some x ∧ e = .returned (.tuple #[.slice A x.length c, .bool true]) ∧ w'.ownsRow w.heap.size 3 1 (.slice A x.length c) x.length (ints (x.map Int.ofNat)) ∧ Below w.heap.size w w'
def NumsPost (most : Nat) (l : List ByteArray) (w : World) (e : Ending) (w' : World) : Prop := NumsNo most l w e w' ∨ NumsOk most l w e w'

end Go.Proofs.YtalkllfgedacoaaGreatDoor

namespace Go.Proofs.YtalkllfgedacoaaGreatDoor
open Go.RowKit Go.Sort


set_option maxHeartbeats 8000000 in
set_option maxRecDepth 100000 in
theorem rnumbers24_any (most : Nat) (A : Option Addr) (n c : Nat) (l : List ByteArray) (w : World) (hm : most ≤ 4294967295) (h9 : 9 ≤ most) (hl : l.length = n) (hn : n ≤ 1099511627776) (hR : Rd w A (rows l)) (hz : ∀ x ∈ l, x.size ≤ 4294967296) :
    Calls Tryz.prog 87 #[.slice A n c, .int .i64 most] w (NumsPost most l w) := by
  have HR := Lib.hid hR
  have HZ := Lib.hid hz
  have HN := Lib.hid hl

  clear hR hz hl
  go_enter Tryz.func87, Tryz.ntmps87
  go_wp2
  go_loopg [6, 13] n (fun gg lv i wr => ∃ (k : Nat) (V : Option Addr) (cv : Nat) (x : List Nat), k ≤ n ∧ gg = n - k ∧ i = .int .i64 k ∧ lv = .slice V k cv ∧ numsQ most (l.take k) = some x ∧ wr.ownsRow w.heap.size 3 1 (.slice V k cv) k (ints (x.map Int.ofNat)) ∧ Below w.heap.size w wr)
  case atStart => exact ⟨0, none, 0, [], Nat.zero_le _, rfl, rfl, rfl, rfl, own_nil _ _ _ _, Below.refl _ _⟩
  case round =>
    obtain ⟨k, V, cv, x, hk, hg, rfl, rfl, hx, hown, hb⟩ := hrel
    have HG := Lib.hid hg
    have HX := Lib.hid hx
    have HO := Lib.hid hown
    have HB := Lib.hid hb
    clear hg hx hown hb
    by_cases hlt : k < n
    · have q1 : (k : Int) < (n : Int) := by omega
      have hkl : k < l.length := by rw [HN.out]; exact hlt
      obtain ⟨bb, oo, rfl, hbl, hcs⟩ := strs_cell (HR.out.below HB.out) (fun e => by rw [e] at hkl; exact Nat.not_lt_zero _ hkl)
      have x0 := hcs k (l.getD k ⟨#[]⟩) (by rw [List.getD, List.getElem?_eq_getElem hkl]; rfl)
      have hzs := HZ.out (l.getD k ⟨#[]⟩) (by rw [List.getD, List.getElem?_eq_getElem hkl]; exact List.getElem_mem _)
      have HSTEP := Lib.hid (numsQ_step hkl HX.out)
      clear hcs hkl
      generalize l.getD k ⟨#[]⟩ = s at *
      have HC := Lib.hid (rNumber_any most s wr hm h9 (by omega))
      clear hzs
      cases hq : numQ most s with
      | none =>
        rw [hq] at HC HSTEP
        have HNO := Lib.hid (numsQ_dead HSTEP.out)
        clear hq
        go_wp2_with fail
        refine HC.out.mono ?_
        rintro e w1 ⟨rfl, hb1⟩
        simp only [Option.isSome_none, Option.getD_none]
        go_wp2
        go_ret2
        exact .inl ⟨HNO.out, rfl, HB.out.trans (hb1.mono HB.out.size)⟩
      | some m =>
        have hmm := numQ_le hq
        rw [hq] at HC HSTEP
        clear hq
        go_wp2_with fail
        refine HC.out.mono ?_
        rintro e w1 ⟨rfl, hb1⟩
        have HB1 := Lib.hid (HB.out.trans (hb1.mono HB.out.size))
        have HO1 := Lib.hid (own_below HO.out hb1)
        clear hb1
        simp only [Option.isSome_some, Option.getD_some]
        go_wp2_with (at_builtin; refine wpList_app rfl (.tmp 25) (.tmp 27) 53 3 rfl w.heap.size (.int .i64 0) 1 8 Tryz.underlying53 int_info rfl (by decide) V k cv (ints (x.map Int.ofNat)) rfl (own_below HO1.out ((Below.refl _ _).alloc (Nat.le_refl _) _)) (some ⟨w1.heap.size, 0, none⟩) 1 1 (ints [(m : Int)]) rfl (by simp) rfl (blk_new (cs := ints [(m : Int)]) rfl).rd (ints_one _) (k + 1) rfl (ints ((x ++ [m]).map Int.ofNat)) (by simp [ints]) (by unfold maxLen; omega) (by omega) (by have := HB1.out.size; simp; omega) ?_; intro V3 cv3 w3 hown3 hg3 hb3)
        go_roundg (n - (k + 1))
        case measure => rw [HG.out]; omega
        case rel => exact ⟨k + 1, V3, cv3, x ++ [m], by omega, rfl, by go_num, rfl, HSTEP.out, hown3, (HB1.out.alloc (HB1.out.size) _).trans hb3⟩
    · obtain rfl : k = n := by omega
      have q1 : ¬ (k : Int) < (k : Int) := by omega
      have HL : RowKit.Hid (numsQ most l = some x) := Lib.hid (by
        have := HX.out
        rwa [List.take_of_length_le (by rw [HN.out]; exact Nat.le_refl _)] at this)
      have HXL := Lib.hid ((numsQ_len HL.out).trans HN.out)
      go_wp2
      go_ret2
      refine .inr ⟨x, V, cv, HL.out, ?_, ?_, HB.out⟩
      · rw [HXL.out]; rfl
      · rw [HXL.out]; exact HO.out

end Go.Proofs.YtalkllfgedacoaaGreatDoor

namespace Go.Proofs.YtalkllfgedacoaaGreatDoor
open Go.RowKit Go.Sort

theorem CloneC_info : (Tryz.prog.info? 110).map (fun i => (i.zero, i.size, i.bytes)) = some (some (cseV Cse.none), 3, 24) := by kernel_rfl

set_option maxHeartbeats 1000000 in
set_option maxRecDepth 100000 in
theorem CloneC_any (A : Option Addr) (n c : Nat) (xs : List Value) (w : World) (hn : n * 24 ≤ 140737488355328) (hx : xs.length = n * 3) (h1 : ∀ u ∈ xs, u.oneCell' = true) (hR : Rd w A xs) :
    Calls Tryz.prog 161 #[.slice A n c] w (RetOwn 110 3 n xs w) := by
  have HR := Lib.hid hR
  have HX := Lib.hid hx
  have H1 := Lib.hid h1
  clear hR hx h1
  rcases A with _ | ad
  · have hxs : xs = [] := by
      rcases HR.out with h | ⟨b, o, h, _⟩
      · exact h
      · cases h
    obtain rfl : n = 0 := by have := HX.out; rw [hxs] at this; simp at this; omega
    have hnil := fun w => Lib.run_eql_slice_nil (P := Tryz.prog) w 22 110 none 0 c 0 0 Tryz.underlying22
    go_enter Tryz.func161, Tryz.ntmps161
    go_wp2
    go_ret
    exact ⟨none, 0, rfl, by rw [hxs]; exact own_nil _ _ _ _, Below.refl _ _⟩
  · have hnil := fun w => Lib.run_eql_slice_nil (P := Tryz.prog) w 22 110 (some ad) n c 0 0 Tryz.underlying22
    obtain ⟨i0, hi, hz0, hz1, hz2⟩ := info_parts CloneC_info
    have hnm : n ≤ maxLen := by unfold maxLen; omega
    have HI := Lib.hid (And.intro hi (And.intro hz0 (And.intro hz1 (And.intro hz2 hnm))))
    clear hi hz0 hz1 hz2 hnm
    go_enter Tryz.func161, Tryz.ntmps161
    go_wp2_with (at_builtin; refine wpList_append_own _ rfl (.tmp 5) (.tmp 6) 22 rfl w.heap.size 110 i0 (cseV Cse.none) 3 24 Tryz.underlying22 HI.out.1 HI.out.2.1 HI.out.2.2.1 HI.out.2.2.2.1 rfl (by decide) (.slice (some ⟨w.heap.size, 0, none⟩) 0 0) 0 [] rfl (own_empty w 110 3) ad n c xs rfl HX.out (rd_add (HR.out.alloc _)) H1.out (by have := HI.out.2.2.2.2; omega) (by omega) (by simp) ?_; intro v' w1 hown1 hg1 hnl1)
    go_ret
    have hown2 : w1.ownsRow w.heap.size 110 3 v' n xs := by simpa using hown1
    have hb := ((Below.refl _ w).alloc (Nat.le_refl _) _).trans ((own_grown (own_empty w 110 3) (by simp) hg1))
    rcases hown2.2 with ⟨rfl, h0⟩ | ⟨g, cap, cur, rfl, _⟩
    · subst h0
      exact ⟨none, 0, rfl, hown2, hb⟩
    · exact ⟨_, _, rfl, hown2, hb⟩

theorem req_load {w : World} {g : Nat} {q : Reqr} (h : Blk w g 24 q.cells) : (loadVar 24 ⟨g, 0, none⟩).run Tryz.prog w = .ok (reqV q) w :=
  run_loadVar_row (P := Tryz.prog) w g 24 24 _ (0, 0) _ h Tryz.underlying24 rfl (by kernel_rfl)
theorem cse_load {w : World} {g : Nat} {x : Cse} (h : Blk w g 110 x.cells) : (loadVar 110 ⟨g, 0, none⟩).run Tryz.prog w = .ok (cseV x) w :=
  run_loadVar_row (P := Tryz.prog) w g 110 110 _ (0, 0) _ h Tryz.underlying110 rfl (by kernel_rfl)

/-- A call is written. -/
theorem req_put {w : World} {g : Nat} {q : Reqr} (h : Blk w g 24 q.cells) (p : Reqr) :
    Blk (((((w.setCell ⟨g, 0, none⟩ (.int .i64 p.kind)).setCell ⟨g, 1, none⟩ (.int .i64 p.arg)).setCell ⟨g, 2, none⟩ (.int .i64 p.value)).setCell ⟨g, 3, none⟩ (.bool p.dflt)).setCell ⟨g, 4, none⟩ (.slice p.A p.n p.c)) g 24 p.cells ∧
    ∀ B, B ≤ g → Below B w (((((w.setCell ⟨g, 0, none⟩ (.int .i64 p.kind)).setCell ⟨g, 1, none⟩ (.int .i64 p.arg)).setCell ⟨g, 2, none⟩ (.int .i64 p.value)).setCell ⟨g, 3, none⟩ (.bool p.dflt)).setCell ⟨g, 4, none⟩ (.slice p.A p.n p.c)) :=
  ⟨((((h.set_ 0 (.int .i64 p.kind)).set_ 1 (.int .i64 p.arg)).set_ 2 (.int .i64 p.value)).set_ 3 (.bool p.dflt)).set_ 4 (.slice p.A p.n p.c),
   fun B hB => (((((Below.refl B w).setCell (p := ⟨g, 0, none⟩) hB _).setCell (p := ⟨g, 1, none⟩) hB _).setCell (p := ⟨g, 2, none⟩) hB _).setCell (p := ⟨g, 3, none⟩) hB _).setCell (p := ⟨g, 4, none⟩) hB _⟩
theorem Rd.set_ {w : World} {g : Nat} {A : Option Addr} {xs : List Value} (h : Rd w A xs) (hA : ∀ b o, A = some ⟨b, o, none⟩ → b ≠ g) (i : Nat) (u : Value) : Rd (w.setCell ⟨g, i, none⟩ u) A xs := by
  rcases h with h | ⟨b, o, rfl, hlt, hc⟩
  · exact .inl h
  · have hn : b ≠ g := hA b o rfl
    have hO := (Only.refl g w).set_ i u
    exact .inr ⟨b, o, rfl, Nat.lt_of_lt_of_le hlt hO.size, fun k v hk => by rw [hO.cell (p := ⟨b, o + k, none⟩) hlt hn]; exact hc k v hk⟩


theorem own_apart {w : World} {base g : Nat} {e : TypeId} {s n : Nat} {A : Option Addr} {c : Nat} {xs : List Value} (h : w.ownsRow base e s (.slice A n c) n xs) (hg : g < base) : ∀ b o, A = some ⟨b, o, none⟩ → b ≠ g := by
  intro b o hA
  rcases h.2 with ⟨hv, _⟩ | ⟨g', cap, cur, hv, hb, _⟩
  · injection hv with hA' _ _; rw [hA] at hA'; cases hA'
  · injection hv with hA' _ _
    rw [hA] at hA'
    injection hA' with hA'
    injection hA' with hA'
    omega

theorem own_above {w : World} {base : Nat} {e : TypeId} {s n : Nat} {A : Option Addr} {c : Nat} {xs : List Value} (h : w.ownsRow base e s (.slice A n c) n xs) : ∀ b o, A = some ⟨b, o, none⟩ → base ≤ b := by
  intro b o hA
  rcases h.2 with ⟨hv, _⟩ | ⟨g', cap, cur, hv, hb, _⟩
  · injection hv with hA' _ _; rw [hA] at hA'; cases hA'
  · injection hv with hA' _ _
    rw [hA] at hA'
    injection hA' with hA'
    injection hA' with hA'
    omega

end Go.Proofs.YtalkllfgedacoaaGreatDoor

namespace Go.Proofs.YtalkllfgedacoaaGreatDoor
open Go.RowKit Go.Sort

set_option maxHeartbeats 1000000 in
set_option maxRecDepth 100000 in
theorem To_any (a : Int) (b : Int) (w : World) : Calls Tryz.prog 138 #[.int .i64 a, .int .i64 b] w fun e w' => e = .returned (cseV ⟨1, a, b⟩) ∧ Below w.heap.size w w' := by
  go_enter Tryz.func138, Tryz.ntmps138
  go_wp2
  exact bodyPost_ret (v := cseV ⟨1, a, b⟩) (ret_cell (g := w.heap.size) rfl rfl (cse_load (x := ⟨1, a, b⟩) (blk_new rfl))) rfl ⟨rfl, (Below.refl _ _).alloc (Nat.le_refl _) _⟩


set_option maxHeartbeats 1000000 in
set_option maxRecDepth 100000 in
theorem From_any (a : Int) (w : World) : Calls Tryz.prog 139 #[.int .i64 a] w fun e w' => e = .returned (cseV ⟨2, a, 0⟩) ∧ Below w.heap.size w w' := by
  go_enter Tryz.func139, Tryz.ntmps139
  go_wp2
  exact bodyPost_ret (v := cseV ⟨2, a, 0⟩) (ret_cell (g := w.heap.size) rfl rfl (cse_load (x := ⟨2, a, 0⟩) (blk_new rfl))) rfl ⟨rfl, (Below.refl _ _).alloc (Nat.le_refl _) _⟩


/-- Handed back: a call of cases, with a row of its own. -/
def RetSel (d : Bool) (l : List Cse) (w : World) (e : Ending) (w' : World) : Prop :=
  ∃ A n c, e = .returned (reqV ⟨3, 0, 0, d, A, n, c⟩) ∧ ReqAt w' ⟨3, 0, 0, d, A, n, c⟩ l ∧ n = l.length ∧ (∀ b o, A = some ⟨b, o, none⟩ → w.heap.size < b) ∧ Below w.heap.size w w'

set_option maxHeartbeats 1000000 in
set_option maxRecDepth 100000 in
theorem Select_any (d : Bool) (A : Option Addr) (n c : Nat) (l : List Cse) (w : World) (hl : l.length = n) (hn : n * 24 ≤ 140737488355328) (hR : Rd w A (rows l)) :
    Calls Tryz.prog 137 #[.bool d, .slice A n c] w (RetSel d l w) := by
  have HR := Lib.hid hR
  have HL := Lib.hid hl
  have HC := Lib.hid (fun W h => CloneC_any A n c (rows l) W hn (by rw [rows_length, hl]; rfl) (rows_one l) h)
  clear hR hl
  go_enter Tryz.func137, Tryz.ntmps137
  go_wp2_with fail
  refine (HC.out _ (HR.out.below ((Below.refl _ _).alloc (Nat.le_refl _) _))).mono ?_
  rintro e w1 ⟨A', c', rfl, ho, hb⟩
  have HO := Lib.hid ho
  have HB := Lib.hid hb
  have hbx : Blk w1 w.heap.size 24 (Reqr.cells ⟨0, 0, 0, false, none, 0, 0⟩) := (Blk.new w 24 (Reqr.cells ⟨0, 0, 0, false, none, 0, 0⟩)).below hb (by simp)
  have HX := Lib.hid hbx
  obtain ⟨x0, x1, x2, x3, x4⟩ := reqBox hbx
  have f0 := hbx.frozen 0
  have f1 := hbx.frozen 1
  have f2 := hbx.frozen 2
  have f3 := hbx.frozen 3
  have f4 := hbx.frozen 4
  have hlt := hbx.lt
  clear ho hb hbx
  simp only at x0 x1 x2 x3 x4
  go_wp2
  obtain ⟨hB, hL⟩ := req_put HX.out ⟨3, 0, 0, d, A', n, c'⟩
  have hl := req_load hB
  have hap := own_apart (g := w.heap.size) HO.out (by simp)
  have hr := own_rd HO.out
  have hbl := (((Below.refl _ _).alloc (Nat.le_refl _) _).trans (HB.out.mono (by simp))).trans (hL _ (Nat.le_refl _))
  refine bodyPost_ret (v := reqV ⟨3, 0, 0, d, A', n, c'⟩) (ret_cell (g := w.heap.size) rfl rfl hl) rfl ?_
  refine ⟨A', n, c', rfl, ⟨HL.out, ?_⟩, HL.out.symm, ?_, hbl⟩
  · exact ((((hr.set_ hap _ _).set_ hap _ _).set_ hap _ _).set_ hap _ _).set_ hap _ _
  · intro b o hA
    have := own_above HO.out b o hA
    simp only [World.size_alloc] at this
    omega


set_option maxHeartbeats 1000000 in
set_option maxRecDepth 100000 in
theorem Send_any (a : Int) (b : Int) (w : World) : Calls Tryz.prog 105 #[.int .i64 a, .int .i64 b] w (RetSel false [⟨1, a, b⟩] w) := by
  go_enter Tryz.func105, Tryz.ntmps105
  go_wp2_with fail
  refine (To_any a b _).mono ?_
  rintro e w1 ⟨rfl, hb1⟩
  have hb1' : Below w.heap.size w w1 := ((Below.refl _ _).alloc (Nat.le_refl _) _).trans (hb1.mono (by simp))
  have HX1 := Lib.hid ((Blk.new w 24 (Reqr.cells ⟨0, 0, 0, false, none, 0, 0⟩)).below hb1 (by simp))
  have HB1 := Lib.hid hb1'
  clear hb1 hb1'
  go_wp2_with fail
  refine (Select_any false (some ⟨w1.heap.size, 0, none⟩) 1 1 [⟨1, a, b⟩] _ rfl (by omega) (Blk.rd (cs := rows [(⟨1, a, b⟩ : Cse)]) (blk_new rfl))).mono ?_
  rintro e w2 ⟨A', n, c', rfl, hq, hn, hab, hb2⟩
  have hb12 : Below w1.heap.size w1 w2 := ((Below.refl _ _).alloc (Nat.le_refl _) _).trans (hb2.mono (by simp))
  have HQ := Lib.hid hq
  have HB2 := Lib.hid (HB1.out.trans (hb12.mono HB1.out.size))
  have hbx := HX1.out.below hb12 HX1.out.lt
  have hx1 := HX1.out.lt
  have HX := Lib.hid hbx
  have HN := Lib.hid hn
  have HAB := Lib.hid (fun b o h => Nat.lt_trans hx1 (Nat.lt_of_lt_of_le (Nat.lt_succ_self _) (by have := hab b o h; simp at this; omega)) : ∀ b o, A' = some ⟨b, o, none⟩ → w.heap.size < b)
  obtain ⟨x0, x1, x2, x3, x4⟩ := reqBox hbx
  have f0 := hbx.frozen 0
  have f1 := hbx.frozen 1
  have f2 := hbx.frozen 2
  have f3 := hbx.frozen 3
  have f4 := hbx.frozen 4
  have hlt := hbx.lt
  clear hq hb2 hb12 hbx HX1 HB1 hn hab hx1
  simp only at x0 x1 x2 x3 x4
  go_wp2
  obtain ⟨hB, hL⟩ := req_put HX.out ⟨3, 0, 0, false, A', n, c'⟩
  have hl := req_load hB
  have hbl := HB2.out.trans (hL _ (Nat.le_refl _))
  have hr := HQ.out.rd
  have hap : ∀ b o, A' = some ⟨b, o, none⟩ → b ≠ w.heap.size := fun b o h => by have := HAB.out b o h; omega
  refine bodyPost_ret (v := reqV ⟨3, 0, 0, false, A', n, c'⟩) (ret_cell (g := w.heap.size) rfl rfl hl) rfl ?_
  refine ⟨A', n, c', rfl, ⟨HQ.out.len, ?_⟩, HN.out, HAB.out, hbl⟩
  exact ((((hr.set_ hap _ _).set_ hap _ _).set_ hap _ _).set_ hap _ _).set_ hap _ _


set_option maxHeartbeats 1000000 in
set_option maxRecDepth 100000 in
theorem Recv_any (a : Int) (w : World) : Calls Tryz.prog 106 #[.int .i64 a] w (RetSel false [⟨2, a, 0⟩] w) := by
  go_enter Tryz.func106, Tryz.ntmps106
  go_wp2_with fail
  refine (From_any a _).mono ?_
  rintro e w1 ⟨rfl, hb1⟩
  have hb1' : Below w.heap.size w w1 := ((Below.refl _ _).alloc (Nat.le_refl _) _).trans (hb1.mono (by simp))
  have HX1 := Lib.hid ((Blk.new w 24 (Reqr.cells ⟨0, 0, 0, false, none, 0, 0⟩)).below hb1 (by simp))
  have HB1 := Lib.hid hb1'
  clear hb1 hb1'
  go_wp2_with fail
  refine (Select_any false (some ⟨w1.heap.size, 0, none⟩) 1 1 [⟨2, a, 0⟩] _ rfl (by omega) (Blk.rd (cs := rows [(⟨2, a, 0⟩ : Cse)]) (blk_new rfl))).mono ?_
  rintro e w2 ⟨A', n, c', rfl, hq, hn, hab, hb2⟩
  have hb12 : Below w1.heap.size w1 w2 := ((Below.refl _ _).alloc (Nat.le_refl _) _).trans (hb2.mono (by simp))
  have HQ := Lib.hid hq
  have HB2 := Lib.hid (HB1.out.trans (hb12.mono HB1.out.size))
  have hbx := HX1.out.below hb12 HX1.out.lt
  have hx1 := HX1.out.lt
  have HX := Lib.hid hbx
  have HN := Lib.hid hn
  have HAB := Lib.hid (fun b o h => Nat.lt_trans hx1 (Nat.lt_of_lt_of_le (Nat.lt_succ_self _) (by have := hab b o h; simp at this; omega)) : ∀ b o, A' = some ⟨b, o, none⟩ → w.heap.size < b)
  obtain ⟨x0, x1, x2, x3, x4⟩ := reqBox hbx
  have f0 := hbx.frozen 0
  have f1 := hbx.frozen 1
  have f2 := hbx.frozen 2
  have f3 := hbx.frozen 3
  have f4 := hbx.frozen 4
  have hlt := hbx.lt
  clear hq hb2 hb12 hbx HX1 HB1 hn hab hx1
  simp only at x0 x1 x2 x3 x4
  go_wp2
  obtain ⟨hB, hL⟩ := req_put HX.out ⟨3, 0, 0, false, A', n, c'⟩
  have hl := req_load hB
  have hbl := HB2.out.trans (hL _ (Nat.le_refl _))
  have hr := HQ.out.rd
  have hap : ∀ b o, A' = some ⟨b, o, none⟩ → b ≠ w.heap.size := fun b o h => by have := HAB.out b o h; omega
  refine bodyPost_ret (v := reqV ⟨3, 0, 0, false, A', n, c'⟩) (ret_cell (g := w.heap.size) rfl rfl hl) rfl ?_
  refine ⟨A', n, c', rfl, ⟨HQ.out.len, ?_⟩, HN.out, HAB.out, hbl⟩
  exact ((((hr.set_ hap _ _).set_ hap _ _).set_ hap _ _).set_ hap _ _).set_ hap _ _


set_option maxHeartbeats 1000000 in
set_option maxRecDepth 100000 in
theorem TrySend_any (a : Int) (b : Int) (w : World) : Calls Tryz.prog 107 #[.int .i64 a, .int .i64 b] w (RetSel true [⟨1, a, b⟩] w) := by
  go_enter Tryz.func107, Tryz.ntmps107
  go_wp2_with fail
  refine (To_any a b _).mono ?_
  rintro e w1 ⟨rfl, hb1⟩
  have hb1' : Below w.heap.size w w1 := ((Below.refl _ _).alloc (Nat.le_refl _) _).trans (hb1.mono (by simp))
  have HX1 := Lib.hid ((Blk.new w 24 (Reqr.cells ⟨0, 0, 0, false, none, 0, 0⟩)).below hb1 (by simp))
  have HB1 := Lib.hid hb1'
  clear hb1 hb1'
  go_wp2_with fail
  refine (Select_any true (some ⟨w1.heap.size, 0, none⟩) 1 1 [⟨1, a, b⟩] _ rfl (by omega) (Blk.rd (cs := rows [(⟨1, a, b⟩ : Cse)]) (blk_new rfl))).mono ?_
  rintro e w2 ⟨A', n, c', rfl, hq, hn, hab, hb2⟩
  have hb12 : Below w1.heap.size w1 w2 := ((Below.refl _ _).alloc (Nat.le_refl _) _).trans (hb2.mono (by simp))
  have HQ := Lib.hid hq
  have HB2 := Lib.hid (HB1.out.trans (hb12.mono HB1.out.size))
  have hbx := HX1.out.below hb12 HX1.out.lt
  have hx1 := HX1.out.lt
  have HX := Lib.hid hbx
  have HN := Lib.hid hn
  have HAB := Lib.hid (fun b o h => Nat.lt_trans hx1 (Nat.lt_of_lt_of_le (Nat.lt_succ_self _) (by have := hab b o h; simp at this; omega)) : ∀ b o, A' = some ⟨b, o, none⟩ → w.heap.size < b)
  obtain ⟨x0, x1, x2, x3, x4⟩ := reqBox hbx
  have f0 := hbx.frozen 0
  have f1 := hbx.frozen 1
  have f2 := hbx.frozen 2
  have f3 := hbx.frozen 3
  have f4 := hbx.frozen 4
  have hlt := hbx.lt
  clear hq hb2 hb12 hbx HX1 HB1 hn hab hx1
  simp only at x0 x1 x2 x3 x4
  go_wp2
  obtain ⟨hB, hL⟩ := req_put HX.out ⟨3, 0, 0, true, A', n, c'⟩
  have hl := req_load hB
  have hbl := HB2.out.trans (hL _ (Nat.le_refl _))
  have hr := HQ.out.rd
  have hap : ∀ b o, A' = some ⟨b, o, none⟩ → b ≠ w.heap.size := fun b o h => by have := HAB.out b o h; omega
  refine bodyPost_ret (v := reqV ⟨3, 0, 0, true, A', n, c'⟩) (ret_cell (g := w.heap.size) rfl rfl hl) rfl ?_
  refine ⟨A', n, c', rfl, ⟨HQ.out.len, ?_⟩, HN.out, HAB.out, hbl⟩
  exact ((((hr.set_ hap _ _).set_ hap _ _).set_ hap _ _).set_ hap _ _).set_ hap _ _


set_option maxHeartbeats 1000000 in
set_option maxRecDepth 100000 in
theorem TryRecv_any (a : Int) (w : World) : Calls Tryz.prog 108 #[.int .i64 a] w (RetSel true [⟨2, a, 0⟩] w) := by
  go_enter Tryz.func108, Tryz.ntmps108
  go_wp2_with fail
  refine (From_any a _).mono ?_
  rintro e w1 ⟨rfl, hb1⟩
  have hb1' : Below w.heap.size w w1 := ((Below.refl _ _).alloc (Nat.le_refl _) _).trans (hb1.mono (by simp))
  have HX1 := Lib.hid ((Blk.new w 24 (Reqr.cells ⟨0, 0, 0, false, none, 0, 0⟩)).below hb1 (by simp))
  have HB1 := Lib.hid hb1'
  clear hb1 hb1'
  go_wp2_with fail
  refine (Select_any true (some ⟨w1.heap.size, 0, none⟩) 1 1 [⟨2, a, 0⟩] _ rfl (by omega) (Blk.rd (cs := rows [(⟨2, a, 0⟩ : Cse)]) (blk_new rfl))).mono ?_
  rintro e w2 ⟨A', n, c', rfl, hq, hn, hab, hb2⟩
  have hb12 : Below w1.heap.size w1 w2 := ((Below.refl _ _).alloc (Nat.le_refl _) _).trans (hb2.mono (by simp))
  have HQ := Lib.hid hq
  have HB2 := Lib.hid (HB1.out.trans (hb12.mono HB1.out.size))
  have hbx := HX1.out.below hb12 HX1.out.lt
  have hx1 := HX1.out.lt
  have HX := Lib.hid hbx
  have HN := Lib.hid hn
  have HAB := Lib.hid (fun b o h => Nat.lt_trans hx1 (Nat.lt_of_lt_of_le (Nat.lt_succ_self _) (by have := hab b o h; simp at this; omega)) : ∀ b o, A' = some ⟨b, o, none⟩ → w.heap.size < b)
  obtain ⟨x0, x1, x2, x3, x4⟩ := reqBox hbx
  have f0 := hbx.frozen 0
  have f1 := hbx.frozen 1
  have f2 := hbx.frozen 2
  have f3 := hbx.frozen 3
  have f4 := hbx.frozen 4
  have hlt := hbx.lt
  clear hq hb2 hb12 hbx HX1 HB1 hn hab hx1
  simp only at x0 x1 x2 x3 x4
  go_wp2
  obtain ⟨hB, hL⟩ := req_put HX.out ⟨3, 0, 0, true, A', n, c'⟩
  have hl := req_load hB
  have hbl := HB2.out.trans (hL _ (Nat.le_refl _))
  have hr := HQ.out.rd
  have hap : ∀ b o, A' = some ⟨b, o, none⟩ → b ≠ w.heap.size := fun b o h => by have := HAB.out b o h; omega
  refine bodyPost_ret (v := reqV ⟨3, 0, 0, true, A', n, c'⟩) (ret_cell (g := w.heap.size) rfl rfl hl) rfl ?_
  refine ⟨A', n, c', rfl, ⟨HQ.out.len, ?_⟩, HN.out, HAB.out, hbl⟩
  exact ((((hr.set_ hap _ _).set_ hap _ _).set_ hap _ _).set_ hap _ _).set_ hap _ _


end Go.Proofs.YtalkllfgedacoaaGreatDoor
