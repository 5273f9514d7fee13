/- The document's text of events, walked. -/
import Derived.Test.YtalkllfgedacoaaGreatDoorD33
import Derived.Test.YtalkllfgedacoaaGreatDoorD30
import Derived.Test.YtalkllfgedacoaaGreatDoorD28
import Derived.Deep.MidRow
import Derived.Deep.RegionHeld3
import Derived.Deep.LoopGhost
namespace Go.Proofs.YtalkllfgedacoaaGreatDoor
open Go.RowKit Go.Sort

theorem run_step (e : Ev) : ∀ (f : Nat) (r : List Ev) (j : Nat), j ≤ runQ e f r → (j < runQ e f r ↔ j < f ∧ j < r.length ∧ r.getD j evNone = e)
  | 0, r, j, h => by rw [runQ] at h ⊢; constructor <;> intro h2 <;> omega
  | f + 1, [], j, h => by rw [runQ] at h ⊢; constructor <;> intro h2 <;> simp at h2
  | f + 1, x :: r, j, h => by
    rw [runQ] at h ⊢
    by_cases hx : x = e
    · rw [if_pos hx] at h ⊢
      cases j with
      | zero => simp [hx]
      | succ i =>
        have ih := run_step e f r i (by omega)
        rw [List.getD_cons_succ, List.length_cons]
        constructor
        · intro h2
          have h3 := ih.1 (by omega)
          exact ⟨by omega, by omega, h3.2.2⟩
        · intro h2
          have h3 := ih.2 ⟨by omega, by omega, h2.2.2⟩
          omega
    · rw [if_neg hx] at h ⊢
      have hj : j = 0 := by omega
      subst hj
      rw [List.getD_cons_zero]
      constructor
      · intro h2; omega
      · intro h2; exact absurd h2.2.2 hx
theorem grp_step {l : List Ev} {k m : Nat} (hk : k < l.length) (h1 : 1 ≤ m) (hm : m ≤ grpQ (l.getD k evNone :: l.drop (k + 1))) :
    m < grpQ (l.getD k evNone :: l.drop (k + 1)) ↔ (l.getD k evNone).kind = 1 ∧ k + m < l.length ∧ m < 1000 ∧ l.getD (k + m) evNone = l.getD k evNone := by
  by_cases hp : (l.getD k evNone).kind = 1
  · rw [grp_pick hp] at hm ⊢
    have h2 := run_step (l.getD k evNone) 999 (l.drop (k + 1)) (m - 1) (by omega)
    have e1 : (l.drop (k + 1)).getD (m - 1) evNone = l.getD (k + m) evNone := by
      rw [List.getD, List.getD, List.getElem?_drop, show k + 1 + (m - 1) = k + m by omega]
    rw [e1, List.length_drop] at h2
    constructor
    · intro h3
      have h4 := h2.1 (by omega)
      exact ⟨hp, by omega, by omega, h4.2.2⟩
    · intro h3
      have h4 := h2.2 ⟨by omega, by omega, h3.2.2.2⟩
      omega
  · rw [grpQ_one _ hp] at hm ⊢
    constructor
    · intro h3; omega
    · intro h3; exact absurd h3.1 hp
theorem dropE_at {l : List Ev} {k : Nat} (hk : k < l.length) : l.drop k = l.getD k evNone :: l.drop (k + 1) := by
  rw [List.drop_eq_getElem_cons hk, List.getD, List.getElem?_eq_getElem hk]
  rfl
theorem drop_grp {l : List Ev} {k g : Nat} (hk : k < l.length) : (l.getD k evNone :: l.drop (k + 1)).drop g = l.drop (k + g) := by
  rw [← dropE_at hk, List.drop_drop]
theorem textD_no {l : List Ev} (h : okG l = false) : textD l = none := by unfold textD; rw [if_neg (fun e => by rw [h] at e; exact Bool.false_ne_true e.1)]
theorem textD_big {l : List Ev} (h : 65536 < (textG l).size) : textD l = none := by unfold textD; rw [if_neg (fun e => by omega)]
theorem textD_many {l : List Ev} (h : 16384 < l.length) : textD l = none := by unfold textD; rw [if_neg (fun e => by omega)]
theorem textD_all {l : List Ev} (h : okG l = true) (h1 : (textG l).size ≤ 65536) (h2 : l.length ≤ 16384) : textD l = some (textG l) := by unfold textD; rw [if_pos ⟨h, h1, h2⟩]

/-- What stands while a text is written. -/
structure RTx (l : List Ev) (n k : Nat) (T : ByteArray) : Prop where
  le : k ≤ n
  txt : T ++ textG (l.drop k) = textG l
  ok : okG (l.drop k) = okG l
  sz : T.size ≤ 65536

set_option maxHeartbeats 8000000 in
set_option maxRecDepth 100000 in
theorem RText24_any (A : Option Addr) (n c : Nat) (l : List Ev) (w : World) (hn : n ≤ 1048576) (hA : EvsIn w A n l) (hi : ∀ e ∈ l, EvIn e ∧ EvSm e) :
    Calls Tryz.prog 30 #[.slice A n c] w fun e w' => e = .returned (.tuple #[.string ((textD l).getD ⟨#[]⟩), .bool (textD l).isSome]) ∧ Below w.heap.size w w' := by
  obtain ⟨la, hla, hra, hea⟩ := hA.ex
  have HLA := Lib.hid hla
  have HRA := Lib.hid hra
  have HEA := Lib.hid hea
  have HI := Lib.hid hi
  have HLN := Lib.hid hA.len
  have HU := Lib.hid Tryz.underlying74
  have HS0 : RowKit.Hid (RTx l n 0 ⟨#[]⟩) := Lib.hid ⟨Nat.zero_le _, nil_app _, rfl, Nat.zero_le _⟩
  clear hA hla hra hea hi
  go_enter Tryz.func30, Tryz.ntmps30
  go_wp2_with fail
  go_loopg [4, 5, 6, 7, 8] n (fun gg v4 v5 _ _ _ wr => ∃ (k : Nat) (T : ByteArray), gg = n - k ∧ v4 = .string T ∧ v5 = .int .i64 k ∧ RTx l n k T ∧ Below w.heap.size w wr)
  case atStart => exact ⟨0, ⟨#[]⟩, rfl, rfl, rfl, HS0.out, Below.refl _ _⟩
  case round =>
    obtain ⟨k, T, hg, rfl, rfl, hs, hb⟩ := hrel
    have HG := Lib.hid hg
    have HS := Lib.hid hs
    have HBW := Lib.hid hb
    have hkn := hs.le
    clear hg hs hb HS0
    by_cases hlt : k < n
    · have q1 : (k : Int) < (n : Int) := by omega
      have q2 : (0 : Int) ≤ (k : Int) := by omega
      have hk1 : k < la.length := by rw [HLA.out]; exact hlt
      have hkl : k < l.length := by rw [HLN.out]; exact hlt
      obtain ⟨b, o, rfl, hbl, hc1⟩ := HRA.out.at_ (by rw [rows_length]; exact Nat.mul_pos (by omega) (by decide))
      have HC1 := Lib.hid hc1
      have HBL := Lib.hid hbl
      have HK1 := Lib.hid hk1
      have HKL := Lib.hid hkl
      have hgi := grpQ_in (l.getD k evNone) (l.drop (k + 1))
      have hgr : grpQ (l.getD k evNone :: l.drop (k + 1)) ≤ n - k := by have h := hgi.2.1; rw [List.length_drop, HLN.out] at h; omega
      have HGS := Lib.hid (fun m h1 h2 => grp_step (m := m) hkl h1 h2)
      rw [HLN.out] at HGS
      have HTX : RowKit.Hid (T ++ (evS (l.getD k evNone) (grpQ (l.getD k evNone :: l.drop (k + 1))) ++ ⟨#[10]⟩) ++ textG (l.drop (k + grpQ (l.getD k evNone :: l.drop (k + 1)))) = textG l) := Lib.hid (by
        have h := HS.out.txt
        rw [dropE_at hkl] at h
        have h2 := text_first h
        rw [drop_grp hkl] at h2
        exact h2)
      have HOK : RowKit.Hid (okG l = (okE (l.getD k evNone) && decide ((evS (l.getD k evNone) (grpQ (l.getD k evNone :: l.drop (k + 1)))).size ≤ 120) && okG (l.drop (k + grpQ (l.getD k evNone :: l.drop (k + 1)))))) := Lib.hid (by
        rw [← HS.out.ok, dropE_at hkl, okG_cons, drop_grp hkl])
      have HKIND : RowKit.Hid ((la.getD k EvR.none).kind = (l.getD k evNone).kind) := Lib.hid (HEA.out.at hk1).kind
      have HEI : RowKit.Hid (EvIn (l.getD k evNone) ∧ EvSm (l.getD k evNone)) := Lib.hid (HI.out _ (by rw [List.getD, List.getElem?_eq_getElem hkl]; exact List.getElem_mem _))
      have HTS := Lib.hid HS.out.sz
      have hts := HS.out.sz
      have hg1 := hgi.1
      have hg2 := hgi.2.2
      generalize hgq : grpQ (l.getD k evNone :: l.drop (k + 1)) = g at *
      clear hgq hgi hc1 hbl hk1 hkl
      go_wp2_with fail
      go_loopg [6] 999 (fun gg v6 wi => ∃ m : Nat, gg = 1000 - m ∧ v6 = .int .i64 m ∧ 1 ≤ m ∧ m ≤ g ∧ Below w.heap.size w wi)
      case atStart => exact ⟨1, rfl, rfl, Nat.le_refl _, hg1, HBW.out⟩
      case round =>
        obtain ⟨m, hgg, rfl, hm1, hm2, hbi⟩ := hrel
        have HGG := Lib.hid hgg
        have HBI := Lib.hid hbi
        have hstep := HGS.out m hm1 hm2
        clear hgg hbi
        obtain ⟨x0, x1, x2, x3, x4, x5, x6, x7, x8⟩ := ev_cells (fun j v hv => (HBI.out.cell (p := ⟨b, o + j, none⟩) HBL.out).trans (HC1.out j v hv)) HK1.out rfl
        rw [HKIND.out] at x0
        by_cases hgo : m < g
        · obtain ⟨e1, e2, e3, e4⟩ := hstep.1 hgo
          obtain ⟨j, hj⟩ : ∃ j, j = k + m := ⟨_, rfl⟩
          rw [← hj] at e2 e4
          have hji : (k : Int) + (m : Int) = (j : Int) := by omega
          have p1 : (j : Int) < (n : Int) := by omega
          have p0 : (0 : Int) ≤ (j : Int) := by omega
          have HWJ : RowKit.Hid (IntKind.i64.wrap (j : Int) = (j : Int)) := Lib.hid (IntWalk.i64_in _ (by omega))
          have p2 : (m : Int) < 1000 := by omega
          rw [e1] at x0
          have hjl : j < la.length := by rw [HLA.out]; exact e2
          have hr1 := ev_range HC1.out HK1.out HBL.out HBI.out
          have hr2 := ev_range HC1.out hjl HBL.out HBI.out
          have hbw1 := Nat.lt_of_lt_of_le HBL.out HBI.out.size
          have he1 := (HEA.out.below HBI.out).at HK1.out
          have he2 := (HEA.out.below HBI.out).at hjl
          have HSE : RowKit.Hid (∀ W, Below wr.heap.size wr W → Calls Tryz.prog 61 #[.agg (la.getD j EvR.none).cells.toArray, .agg (la.getD k EvR.none).cells.toArray] W fun e w' => e = .returned (.bool true) ∧ Below W.heap.size W w') := Lib.hid (fun W h => by
            have h2 := revSame_any (la.getD j EvR.none) (la.getD k EvR.none) _ _ W (he2.below h) (he1.below h) (he2.small (by rw [e4]; exact HEI.out.2)) (he1.small HEI.out.2)
            rw [decide_eq_true e4] at h2
            exact h2)
          have HI1 : RowKit.Hid ((Tryz.prog.info? 74).map (·.size) = some (la.getD k EvR.none).cells.length) := Lib.hid ev_size
          have HI2 : RowKit.Hid ((Tryz.prog.info? 74).map (·.size) = some (la.getD j EvR.none).cells.length) := Lib.hid ev_size
          clear he1 he2 x1 x2 x3 x4 x5 x6 x7 x8 hjl hstep e4 hj
          generalize (la.getD k EvR.none).cells = L1 at *
          generalize (la.getD j EvR.none).cells = L2 at *
          have HSB : RowKit.Hid (∀ w', Below wr.heap.size wr w' → (w'.rangeAt b (o + k * 9) L1 ∧ w'.rangeAt b (o + j * 9) L2 ∧ w'.cell? ⟨b, o + k * 9, none⟩ = some (.int .i64 1))) := Lib.hid (fun w' hb => ⟨fun j v hv => (hb.cell (p := ⟨b, o + k * 9 + j, none⟩) hbw1).trans (hr1 j v hv), fun i v hv => (hb.cell (p := ⟨b, o + j * 9 + i, none⟩) hbw1).trans (hr2 i v hv), (hb.cell (p := ⟨b, o + k * 9, none⟩) hbw1).trans x0⟩)
          have HP0 : RowKit.Hid (Below wr.heap.size wr wr.drew) := Lib.hid (Below.drewN' (Below.refl wr.heap.size wr) 1)
          clear hr1 hr2
          go_upto_region 5 with (fail)
          refine wp_region_held_drew (S := fun w' => w'.rangeAt b (o + k * 9) L1 ∧ w'.rangeAt b (o + j * 9) L2 ∧ w'.cell? ⟨b, o + k * 9, none⟩ = some (.int .i64 1)) (by kernel_rfl) (HSB.out _ (Below.drewN' (Below.refl wr.heap.size wr) 1)) (fun hHeld => ?_)
          refine wpAnyH_take (i := 0) (v := .slice (some ⟨b, o, none⟩) n c) rfl (by kernel_rfl) (by kernel_rfl) (by kernel_rfl) (fun _ _ _ h => h) (Or.inl ⟨by rfl, fun w hSw => by go_simp⟩) hHeld ?_
          try simp only [Act.put, List.getElem_toArray, List.getElem_cons_zero, List.setIfInBounds_toArray, List.set_cons_zero, List.set_cons_succ]
          refine wpAnyH_take (i := 1) (v := .int .i64 k) rfl (by kernel_rfl) (by kernel_rfl) (by kernel_rfl) (fun _ _ _ h => h) (Or.inl ⟨by rfl, fun w hSw => by go_simp⟩) hHeld ?_
          try simp only [Act.put, List.getElem_toArray, List.getElem_cons_succ, List.getElem_cons_zero, List.setIfInBounds_toArray, List.set_cons_zero, List.set_cons_succ]
          refine wpAnyH_take (i := 2) (v := .pointer (some ⟨b, o + k * 9, none⟩)) rfl (by kernel_rfl) (by kernel_rfl) (by kernel_rfl) (fun _ _ _ h => h) (Or.inl ⟨by rfl, fun w hSw => by go_simp⟩) hHeld ?_
          try simp only [Act.put, List.getElem_toArray, List.getElem_cons_succ, List.getElem_cons_zero, List.setIfInBounds_toArray, List.set_cons_zero, List.set_cons_succ]
          refine wpAnyH_take (i := 3) (v := .pointer (some ⟨b, o + k * 9, none⟩)) rfl (by kernel_rfl) (by kernel_rfl) (by kernel_rfl) (fun _ _ _ h => h) (Or.inl ⟨by rfl, fun w hSw => by go_simp⟩) hHeld ?_
          try simp only [Act.put, List.getElem_toArray, List.getElem_cons_succ, List.getElem_cons_zero, List.setIfInBounds_toArray, List.set_cons_zero, List.set_cons_succ]
          refine wpAnyH_take (i := 4) (v := .int .i64 1) rfl (by kernel_rfl) (by kernel_rfl) (by kernel_rfl) (fun _ _ _ h => h) (Or.inl ⟨by rfl, fun w hSw => by have hk0 := hSw.2.2; go_simp⟩) hHeld ?_
          try simp only [Act.put, List.getElem_toArray, List.getElem_cons_succ, List.getElem_cons_zero, List.setIfInBounds_toArray, List.set_cons_zero, List.set_cons_succ]
          refine wpAnyH_take (i := 5) (v := .bool true) rfl (by kernel_rfl) (by kernel_rfl) (by kernel_rfl) (fun _ _ _ h => h) (Or.inl ⟨by rfl, fun w hSw => by go_simp⟩) hHeld ?_
          try simp only [Act.put, List.getElem_toArray, List.getElem_cons_succ, List.getElem_cons_zero, List.setIfInBounds_toArray, List.set_cons_zero, List.set_cons_succ]
          refine wpAnyH_take (i := 6) (v := .bool true) rfl (by kernel_rfl) (by kernel_rfl) (by kernel_rfl) (fun _ _ _ h => h) (Or.inl ⟨by rfl, fun w hSw => by go_simp⟩) hHeld ?_
          try simp only [Act.put, List.getElem_toArray, List.getElem_cons_succ, List.getElem_cons_zero, List.setIfInBounds_toArray, List.set_cons_zero, List.set_cons_succ]
          refine wpAnyH_take (i := 7) (v := .int .i64 k) rfl (by kernel_rfl) (by kernel_rfl) (by kernel_rfl) (fun _ _ _ h => h) (Or.inl ⟨by rfl, fun w hSw => by go_simp⟩) hHeld ?_
          try simp only [Act.put, List.getElem_toArray, List.getElem_cons_succ, List.getElem_cons_zero, List.setIfInBounds_toArray, List.set_cons_zero, List.set_cons_succ]
          refine wpAnyH_take (i := 8) (v := .int .i64 m) rfl (by kernel_rfl) (by kernel_rfl) (by kernel_rfl) (fun _ _ _ h => h) (Or.inl ⟨by rfl, fun w hSw => by go_simp⟩) hHeld ?_
          try simp only [Act.put, List.getElem_toArray, List.getElem_cons_succ, List.getElem_cons_zero, List.setIfInBounds_toArray, List.set_cons_zero, List.set_cons_succ]
          refine wpAnyH_take (i := 9) (v := .int .i64 j) rfl (by kernel_rfl) (by kernel_rfl) (by kernel_rfl) (fun _ _ _ h => h) (Or.inl ⟨by rfl, fun w hSw => by go_simp <;> exact HWJ.out⟩) hHeld ?_
          try simp only [Act.put, List.getElem_toArray, List.getElem_cons_succ, List.getElem_cons_zero, List.setIfInBounds_toArray, List.set_cons_zero, List.set_cons_succ]
          refine wpAnyH_take (i := 10) (v := .slice (some ⟨b, o, none⟩) n c) rfl (by kernel_rfl) (by kernel_rfl) (by kernel_rfl) (fun _ _ _ h => h) (Or.inl ⟨by rfl, fun w hSw => by go_simp⟩) hHeld ?_
          try simp only [Act.put, List.getElem_toArray, List.getElem_cons_succ, List.getElem_cons_zero, List.setIfInBounds_toArray, List.set_cons_zero, List.set_cons_succ]
          refine wpAnyH_take (i := 11) (v := .int .i64 n) rfl (by kernel_rfl) (by kernel_rfl) (by kernel_rfl) (fun _ _ _ h => h) (Or.inl ⟨by rfl, fun w hSw => by go_simp⟩) hHeld ?_
          try simp only [Act.put, List.getElem_toArray, List.getElem_cons_succ, List.getElem_cons_zero, List.setIfInBounds_toArray, List.set_cons_zero, List.set_cons_succ]
          refine wpAnyH_take (i := 12) (v := .bool true) rfl (by kernel_rfl) (by kernel_rfl) (by kernel_rfl) (fun _ _ _ h => h) (Or.inl ⟨by rfl, fun w hSw => by go_simp⟩) hHeld ?_
          try simp only [Act.put, List.getElem_toArray, List.getElem_cons_succ, List.getElem_cons_zero, List.setIfInBounds_toArray, List.set_cons_zero, List.set_cons_succ]
          refine wpAnyH_take (i := 13) (v := .bool true) rfl (by kernel_rfl) (by kernel_rfl) (by kernel_rfl) (fun _ _ _ h => h) (Or.inl ⟨by rfl, fun w hSw => by go_simp⟩) hHeld ?_
          try simp only [Act.put, List.getElem_toArray, List.getElem_cons_succ, List.getElem_cons_zero, List.setIfInBounds_toArray, List.set_cons_zero, List.set_cons_succ]
          refine wpAnyH_take (i := 14) (v := .bool true) rfl (by kernel_rfl) (by kernel_rfl) (by kernel_rfl) (fun _ _ _ h => h) (Or.inl ⟨by rfl, fun w hSw => by go_simp⟩) hHeld ?_
          try simp only [Act.put, List.getElem_toArray, List.getElem_cons_succ, List.getElem_cons_zero, List.setIfInBounds_toArray, List.set_cons_zero, List.set_cons_succ]
          refine wpAnyH_take (i := 15) (v := .int .i64 m) rfl (by kernel_rfl) (by kernel_rfl) (by kernel_rfl) (fun _ _ _ h => h) (Or.inl ⟨by rfl, fun w hSw => by go_simp⟩) hHeld ?_
          try simp only [Act.put, List.getElem_toArray, List.getElem_cons_succ, List.getElem_cons_zero, List.setIfInBounds_toArray, List.set_cons_zero, List.set_cons_succ]
          refine wpAnyH_take (i := 16) (v := .bool true) rfl (by kernel_rfl) (by kernel_rfl) (by kernel_rfl) (fun _ _ _ h => h) (Or.inl ⟨by rfl, fun w hSw => by go_simp⟩) hHeld ?_
          try simp only [Act.put, List.getElem_toArray, List.getElem_cons_succ, List.getElem_cons_zero, List.setIfInBounds_toArray, List.set_cons_zero, List.set_cons_succ]
          refine wpAnyH_take (i := 17) (v := .bool true) rfl (by kernel_rfl) (by kernel_rfl) (by kernel_rfl) (fun _ _ _ h => h) (Or.inl ⟨by rfl, fun w hSw => by go_simp⟩) hHeld ?_
          try simp only [Act.put, List.getElem_toArray, List.getElem_cons_succ, List.getElem_cons_zero, List.setIfInBounds_toArray, List.set_cons_zero, List.set_cons_succ]
          refine wpAnyH_take (i := 18) (v := .bool true) rfl (by kernel_rfl) (by kernel_rfl) (by kernel_rfl) (fun _ _ _ h => h) (Or.inl ⟨by rfl, fun w hSw => by go_simp⟩) hHeld ?_
          try simp only [Act.put, List.getElem_toArray, List.getElem_cons_succ, List.getElem_cons_zero, List.setIfInBounds_toArray, List.set_cons_zero, List.set_cons_succ]
          refine wpAnyH_take (i := 19) (v := .slice (some ⟨b, o, none⟩) n c) rfl (by kernel_rfl) (by kernel_rfl) (by kernel_rfl) (fun _ _ _ h => h) (Or.inl ⟨by rfl, fun w hSw => by go_simp⟩) hHeld ?_
          try simp only [Act.put, List.getElem_toArray, List.getElem_cons_succ, List.getElem_cons_zero, List.setIfInBounds_toArray, List.set_cons_zero, List.set_cons_succ]
          refine wpAnyH_take (i := 20) (v := .int .i64 k) rfl (by kernel_rfl) (by kernel_rfl) (by kernel_rfl) (fun _ _ _ h => h) (Or.inl ⟨by rfl, fun w hSw => by go_simp⟩) hHeld ?_
          try simp only [Act.put, List.getElem_toArray, List.getElem_cons_succ, List.getElem_cons_zero, List.setIfInBounds_toArray, List.set_cons_zero, List.set_cons_succ]
          refine wpAnyH_take (i := 21) (v := .int .i64 m) rfl (by kernel_rfl) (by kernel_rfl) (by kernel_rfl) (fun _ _ _ h => h) (Or.inl ⟨by rfl, fun w hSw => by go_simp⟩) hHeld ?_
          try simp only [Act.put, List.getElem_toArray, List.getElem_cons_succ, List.getElem_cons_zero, List.setIfInBounds_toArray, List.set_cons_zero, List.set_cons_succ]
          refine wpAnyH_take (i := 22) (v := .int .i64 j) rfl (by kernel_rfl) (by kernel_rfl) (by kernel_rfl) (fun _ _ _ h => h) (Or.inl ⟨by rfl, fun w hSw => by go_simp <;> exact HWJ.out⟩) hHeld ?_
          try simp only [Act.put, List.getElem_toArray, List.getElem_cons_succ, List.getElem_cons_zero, List.setIfInBounds_toArray, List.set_cons_zero, List.set_cons_succ]
          refine wpAnyH_take (i := 23) (v := .pointer (some ⟨b, o + j * 9, none⟩)) rfl (by kernel_rfl) (by kernel_rfl) (by kernel_rfl) (fun _ _ _ h => h) (Or.inl ⟨by rfl, fun w hSw => by go_simp⟩) hHeld ?_
          try simp only [Act.put, List.getElem_toArray, List.getElem_cons_succ, List.getElem_cons_zero, List.setIfInBounds_toArray, List.set_cons_zero, List.set_cons_succ]
          refine wpAnyH_take (i := 24) (v := .agg L2.toArray) rfl (by kernel_rfl) (by kernel_rfl) (by kernel_rfl) (fun _ _ _ h => h) (yieldsIf_load_mid (by rfl) _ _ rfl _ _ rfl L2 _ (fun _ h => h.2.1) HU.out rfl HI2.out) hHeld ?_
          try simp only [Act.put, List.getElem_toArray, List.getElem_cons_succ, List.getElem_cons_zero, List.setIfInBounds_toArray, List.set_cons_zero, List.set_cons_succ]
          refine wpAnyH_take (i := 25) (v := .slice (some ⟨b, o, none⟩) n c) rfl (by kernel_rfl) (by kernel_rfl) (by kernel_rfl) (fun _ _ _ h => h) (Or.inl ⟨by rfl, fun w hSw => by go_simp⟩) hHeld ?_
          try simp only [Act.put, List.getElem_toArray, List.getElem_cons_succ, List.getElem_cons_zero, List.setIfInBounds_toArray, List.set_cons_zero, List.set_cons_succ]
          refine wpAnyH_take (i := 26) (v := .int .i64 k) rfl (by kernel_rfl) (by kernel_rfl) (by kernel_rfl) (fun _ _ _ h => h) (Or.inl ⟨by rfl, fun w hSw => by go_simp⟩) hHeld ?_
          try simp only [Act.put, List.getElem_toArray, List.getElem_cons_succ, List.getElem_cons_zero, List.setIfInBounds_toArray, List.set_cons_zero, List.set_cons_succ]
          refine wpAnyH_take (i := 27) (v := .pointer (some ⟨b, o + k * 9, none⟩)) rfl (by kernel_rfl) (by kernel_rfl) (by kernel_rfl) (fun _ _ _ h => h) (Or.inl ⟨by rfl, fun w hSw => by go_simp⟩) hHeld ?_
          try simp only [Act.put, List.getElem_toArray, List.getElem_cons_succ, List.getElem_cons_zero, List.setIfInBounds_toArray, List.set_cons_zero, List.set_cons_succ]
          refine wpAnyH_take (i := 28) (v := .agg L1.toArray) rfl (by kernel_rfl) (by kernel_rfl) (by kernel_rfl) (fun _ _ _ h => h) (yieldsIf_load_mid (by rfl) _ _ rfl _ _ rfl L1 _ (fun _ h => h.1) HU.out rfl HI1.out) hHeld ?_
          try simp only [Act.put, List.getElem_toArray, List.getElem_cons_succ, List.getElem_cons_zero, List.setIfInBounds_toArray, List.set_cons_zero, List.set_cons_succ]
          refine wpAnyH_ready (rs := [29]) (by kernel_rfl) (by simp) ?_
          refine AllReadyH.cons rfl (fun K hK => ?_) AllReadyH.nil
          clear hHeld
          rw [if_pos (by rfl)]
          simp only [List.getElem_toArray, List.getElem_cons_succ, List.getElem_cons_zero]
          go_simp
          refine (HSE.out wr.drew HP0.out).mono ?_
          rintro er v1 ⟨rfl, hb1⟩
          have hB1 : Below wr.heap.size wr v1 := ⟨hb1.os, hb1.tape, hb1.output, hb1.size, hb1.block⟩
          go_wp2_with fail
          refine hK.out _ _ (HSB.out _ hB1) (fun hHeld => ?_)
          clear hK K
          try simp only [Act.put, List.getElem_toArray, List.getElem_cons_succ, List.getElem_cons_zero, List.setIfInBounds_toArray, List.set_cons_zero, List.set_cons_succ]
          refine wpAnyH_take (i := 30) (v := .bool true) rfl (by kernel_rfl) (by kernel_rfl) (by kernel_rfl) (fun _ _ _ h => h) (Or.inl ⟨by rfl, fun w hSw => by go_simp⟩) hHeld ?_
          try simp only [Act.put, List.getElem_toArray, List.getElem_cons_succ, List.getElem_cons_zero, List.setIfInBounds_toArray, List.set_cons_zero, List.set_cons_succ]
          clear hHeld
          refine wpAnyH_done (by kernel_rfl) ?_ _
          have HB1 := Lib.hid (HBI.out.trans (hB1.mono HBI.out.size))
          clear hb1 hB1
          go_wp2_with fail
          go_roundg (1000 - (m + 1))
          case measure => rw [HGG.out]; omega
          case rel => exact ⟨m + 1, rfl, by go_num, by omega, by omega, HB1.out⟩
        · obtain rfl : m = g := by omega
          have HST := Lib.hid hstep
          clear hstep hgo
          by_cases hp : (l.getD k evNone).kind = 1
          · rw [hp] at x0
            by_cases hjn : k + m < n
            · by_cases h1000 : m < 1000
              · obtain ⟨j, hj⟩ : ∃ j, j = k + m := ⟨_, rfl⟩
                have HNE : RowKit.Hid (¬ l.getD j evNone = l.getD k evNone) := Lib.hid (fun e => Nat.lt_irrefl _ (HST.out.2 ⟨hp, hjn, h1000, by rw [← hj]; exact e⟩))
                have e2 : j < n := by omega
                have hji : (k : Int) + (m : Int) = (j : Int) := by omega
                have p1 : (j : Int) < (n : Int) := by omega
                have p0 : (0 : Int) ≤ (j : Int) := by omega
                have HWJ : RowKit.Hid (IntKind.i64.wrap (j : Int) = (j : Int)) := Lib.hid (IntWalk.i64_in _ (by omega))
                have p2 : (m : Int) < 1000 := by omega
                have HLCELL : True := trivial
                have hjll : j < l.length := by rw [HLN.out]; exact e2
                have hjl : j < la.length := by rw [HLA.out]; exact e2
                have hr1 := ev_range HC1.out HK1.out HBL.out HBI.out
                have hr2 := ev_range HC1.out hjl HBL.out HBI.out
                have hbw1 := Nat.lt_of_lt_of_le HBL.out HBI.out.size
                have he1 := (HEA.out.below HBI.out).at HK1.out
                have he2 := (HEA.out.below HBI.out).at hjl
                have HSE : RowKit.Hid (∀ W, Below wr.heap.size wr W → Calls Tryz.prog 61 #[.agg (la.getD j EvR.none).cells.toArray, .agg (la.getD k EvR.none).cells.toArray] W fun e w' => e = .returned (.bool false) ∧ Below W.heap.size W w') := Lib.hid (fun W h => by
                  have h2 := revSame_any (la.getD j EvR.none) (la.getD k EvR.none) _ _ W (he2.below h) (he1.below h) (he2.small (HI.out _ (by rw [List.getD, List.getElem?_eq_getElem hjll]; exact List.getElem_mem _)).2) (he1.small HEI.out.2)
                  rw [decide_eq_false HNE.out] at h2
                  exact h2)
                have HI1 : RowKit.Hid ((Tryz.prog.info? 74).map (·.size) = some (la.getD k EvR.none).cells.length) := Lib.hid ev_size
                have HI2 : RowKit.Hid ((Tryz.prog.info? 74).map (·.size) = some (la.getD j EvR.none).cells.length) := Lib.hid ev_size
                clear he1 he2 x1 x2 x3 x4 x5 x6 x7 x8 hjl hjll hj
                generalize (la.getD k EvR.none).cells = L1 at *
                generalize (la.getD j EvR.none).cells = L2 at *
                have HSB : RowKit.Hid (∀ w', Below wr.heap.size wr w' → (w'.rangeAt b (o + k * 9) L1 ∧ w'.rangeAt b (o + j * 9) L2 ∧ w'.cell? ⟨b, o + k * 9, none⟩ = some (.int .i64 1))) := Lib.hid (fun w' hb => ⟨fun j v hv => (hb.cell (p := ⟨b, o + k * 9 + j, none⟩) hbw1).trans (hr1 j v hv), fun i v hv => (hb.cell (p := ⟨b, o + j * 9 + i, none⟩) hbw1).trans (hr2 i v hv), (hb.cell (p := ⟨b, o + k * 9, none⟩) hbw1).trans x0⟩)
                have HP0 : RowKit.Hid (Below wr.heap.size wr wr.drew) := Lib.hid (Below.drewN' (Below.refl wr.heap.size wr) 1)
                clear hr1 hr2
                go_upto_region 5 with (fail)
                refine wp_region_held_drew (S := fun w' => w'.rangeAt b (o + k * 9) L1 ∧ w'.rangeAt b (o + j * 9) L2 ∧ w'.cell? ⟨b, o + k * 9, none⟩ = some (.int .i64 1)) (by kernel_rfl) (HSB.out _ (Below.drewN' (Below.refl wr.heap.size wr) 1)) (fun hHeld => ?_)
                refine wpAnyH_take (i := 0) (v := .slice (some ⟨b, o, none⟩) n c) rfl (by kernel_rfl) (by kernel_rfl) (by kernel_rfl) (fun _ _ _ h => h) (Or.inl ⟨by rfl, fun w hSw => by go_simp⟩) hHeld ?_
                try simp only [Act.put, List.getElem_toArray, List.getElem_cons_zero, List.setIfInBounds_toArray, List.set_cons_zero, List.set_cons_succ]
                refine wpAnyH_take (i := 1) (v := .int .i64 k) rfl (by kernel_rfl) (by kernel_rfl) (by kernel_rfl) (fun _ _ _ h => h) (Or.inl ⟨by rfl, fun w hSw => by go_simp⟩) hHeld ?_
                try simp only [Act.put, List.getElem_toArray, List.getElem_cons_succ, List.getElem_cons_zero, List.setIfInBounds_toArray, List.set_cons_zero, List.set_cons_succ]
                refine wpAnyH_take (i := 2) (v := .pointer (some ⟨b, o + k * 9, none⟩)) rfl (by kernel_rfl) (by kernel_rfl) (by kernel_rfl) (fun _ _ _ h => h) (Or.inl ⟨by rfl, fun w hSw => by go_simp⟩) hHeld ?_
                try simp only [Act.put, List.getElem_toArray, List.getElem_cons_succ, List.getElem_cons_zero, List.setIfInBounds_toArray, List.set_cons_zero, List.set_cons_succ]
                refine wpAnyH_take (i := 3) (v := .pointer (some ⟨b, o + k * 9, none⟩)) rfl (by kernel_rfl) (by kernel_rfl) (by kernel_rfl) (fun _ _ _ h => h) (Or.inl ⟨by rfl, fun w hSw => by go_simp⟩) hHeld ?_
                try simp only [Act.put, List.getElem_toArray, List.getElem_cons_succ, List.getElem_cons_zero, List.setIfInBounds_toArray, List.set_cons_zero, List.set_cons_succ]
                refine wpAnyH_take (i := 4) (v := .int .i64 1) rfl (by kernel_rfl) (by kernel_rfl) (by kernel_rfl) (fun _ _ _ h => h) (Or.inl ⟨by rfl, fun w hSw => by have hk0 := hSw.2.2; go_simp⟩) hHeld ?_
                try simp only [Act.put, List.getElem_toArray, List.getElem_cons_succ, List.getElem_cons_zero, List.setIfInBounds_toArray, List.set_cons_zero, List.set_cons_succ]
                refine wpAnyH_take (i := 5) (v := .bool true) rfl (by kernel_rfl) (by kernel_rfl) (by kernel_rfl) (fun _ _ _ h => h) (Or.inl ⟨by rfl, fun w hSw => by go_simp⟩) hHeld ?_
                try simp only [Act.put, List.getElem_toArray, List.getElem_cons_succ, List.getElem_cons_zero, List.setIfInBounds_toArray, List.set_cons_zero, List.set_cons_succ]
                refine wpAnyH_take (i := 6) (v := .bool true) rfl (by kernel_rfl) (by kernel_rfl) (by kernel_rfl) (fun _ _ _ h => h) (Or.inl ⟨by rfl, fun w hSw => by go_simp⟩) hHeld ?_
                try simp only [Act.put, List.getElem_toArray, List.getElem_cons_succ, List.getElem_cons_zero, List.setIfInBounds_toArray, List.set_cons_zero, List.set_cons_succ]
                refine wpAnyH_take (i := 7) (v := .int .i64 k) rfl (by kernel_rfl) (by kernel_rfl) (by kernel_rfl) (fun _ _ _ h => h) (Or.inl ⟨by rfl, fun w hSw => by go_simp⟩) hHeld ?_
                try simp only [Act.put, List.getElem_toArray, List.getElem_cons_succ, List.getElem_cons_zero, List.setIfInBounds_toArray, List.set_cons_zero, List.set_cons_succ]
                refine wpAnyH_take (i := 8) (v := .int .i64 m) rfl (by kernel_rfl) (by kernel_rfl) (by kernel_rfl) (fun _ _ _ h => h) (Or.inl ⟨by rfl, fun w hSw => by go_simp⟩) hHeld ?_
                try simp only [Act.put, List.getElem_toArray, List.getElem_cons_succ, List.getElem_cons_zero, List.setIfInBounds_toArray, List.set_cons_zero, List.set_cons_succ]
                refine wpAnyH_take (i := 9) (v := .int .i64 j) rfl (by kernel_rfl) (by kernel_rfl) (by kernel_rfl) (fun _ _ _ h => h) (Or.inl ⟨by rfl, fun w hSw => by go_simp <;> exact HWJ.out⟩) hHeld ?_
                try simp only [Act.put, List.getElem_toArray, List.getElem_cons_succ, List.getElem_cons_zero, List.setIfInBounds_toArray, List.set_cons_zero, List.set_cons_succ]
                refine wpAnyH_take (i := 10) (v := .slice (some ⟨b, o, none⟩) n c) rfl (by kernel_rfl) (by kernel_rfl) (by kernel_rfl) (fun _ _ _ h => h) (Or.inl ⟨by rfl, fun w hSw => by go_simp⟩) hHeld ?_
                try simp only [Act.put, List.getElem_toArray, List.getElem_cons_succ, List.getElem_cons_zero, List.setIfInBounds_toArray, List.set_cons_zero, List.set_cons_succ]
                refine wpAnyH_take (i := 11) (v := .int .i64 n) rfl (by kernel_rfl) (by kernel_rfl) (by kernel_rfl) (fun _ _ _ h => h) (Or.inl ⟨by rfl, fun w hSw => by go_simp⟩) hHeld ?_
                try simp only [Act.put, List.getElem_toArray, List.getElem_cons_succ, List.getElem_cons_zero, List.setIfInBounds_toArray, List.set_cons_zero, List.set_cons_succ]
                refine wpAnyH_take (i := 12) (v := .bool true) rfl (by kernel_rfl) (by kernel_rfl) (by kernel_rfl) (fun _ _ _ h => h) (Or.inl ⟨by rfl, fun w hSw => by go_simp⟩) hHeld ?_
                try simp only [Act.put, List.getElem_toArray, List.getElem_cons_succ, List.getElem_cons_zero, List.setIfInBounds_toArray, List.set_cons_zero, List.set_cons_succ]
                refine wpAnyH_take (i := 13) (v := .bool true) rfl (by kernel_rfl) (by kernel_rfl) (by kernel_rfl) (fun _ _ _ h => h) (Or.inl ⟨by rfl, fun w hSw => by go_simp⟩) hHeld ?_
                try simp only [Act.put, List.getElem_toArray, List.getElem_cons_succ, List.getElem_cons_zero, List.setIfInBounds_toArray, List.set_cons_zero, List.set_cons_succ]
                refine wpAnyH_take (i := 14) (v := .bool true) rfl (by kernel_rfl) (by kernel_rfl) (by kernel_rfl) (fun _ _ _ h => h) (Or.inl ⟨by rfl, fun w hSw => by go_simp⟩) hHeld ?_
                try simp only [Act.put, List.getElem_toArray, List.getElem_cons_succ, List.getElem_cons_zero, List.setIfInBounds_toArray, List.set_cons_zero, List.set_cons_succ]
                refine wpAnyH_take (i := 15) (v := .int .i64 m) rfl (by kernel_rfl) (by kernel_rfl) (by kernel_rfl) (fun _ _ _ h => h) (Or.inl ⟨by rfl, fun w hSw => by go_simp⟩) hHeld ?_
                try simp only [Act.put, List.getElem_toArray, List.getElem_cons_succ, List.getElem_cons_zero, List.setIfInBounds_toArray, List.set_cons_zero, List.set_cons_succ]
                refine wpAnyH_take (i := 16) (v := .bool true) rfl (by kernel_rfl) (by kernel_rfl) (by kernel_rfl) (fun _ _ _ h => h) (Or.inl ⟨by rfl, fun w hSw => by go_simp⟩) hHeld ?_
                try simp only [Act.put, List.getElem_toArray, List.getElem_cons_succ, List.getElem_cons_zero, List.setIfInBounds_toArray, List.set_cons_zero, List.set_cons_succ]
                refine wpAnyH_take (i := 17) (v := .bool true) rfl (by kernel_rfl) (by kernel_rfl) (by kernel_rfl) (fun _ _ _ h => h) (Or.inl ⟨by rfl, fun w hSw => by go_simp⟩) hHeld ?_
                try simp only [Act.put, List.getElem_toArray, List.getElem_cons_succ, List.getElem_cons_zero, List.setIfInBounds_toArray, List.set_cons_zero, List.set_cons_succ]
                refine wpAnyH_take (i := 18) (v := .bool true) rfl (by kernel_rfl) (by kernel_rfl) (by kernel_rfl) (fun _ _ _ h => h) (Or.inl ⟨by rfl, fun w hSw => by go_simp⟩) hHeld ?_
                try simp only [Act.put, List.getElem_toArray, List.getElem_cons_succ, List.getElem_cons_zero, List.setIfInBounds_toArray, List.set_cons_zero, List.set_cons_succ]
                refine wpAnyH_take (i := 19) (v := .slice (some ⟨b, o, none⟩) n c) rfl (by kernel_rfl) (by kernel_rfl) (by kernel_rfl) (fun _ _ _ h => h) (Or.inl ⟨by rfl, fun w hSw => by go_simp⟩) hHeld ?_
                try simp only [Act.put, List.getElem_toArray, List.getElem_cons_succ, List.getElem_cons_zero, List.setIfInBounds_toArray, List.set_cons_zero, List.set_cons_succ]
                refine wpAnyH_take (i := 20) (v := .int .i64 k) rfl (by kernel_rfl) (by kernel_rfl) (by kernel_rfl) (fun _ _ _ h => h) (Or.inl ⟨by rfl, fun w hSw => by go_simp⟩) hHeld ?_
                try simp only [Act.put, List.getElem_toArray, List.getElem_cons_succ, List.getElem_cons_zero, List.setIfInBounds_toArray, List.set_cons_zero, List.set_cons_succ]
                refine wpAnyH_take (i := 21) (v := .int .i64 m) rfl (by kernel_rfl) (by kernel_rfl) (by kernel_rfl) (fun _ _ _ h => h) (Or.inl ⟨by rfl, fun w hSw => by go_simp⟩) hHeld ?_
                try simp only [Act.put, List.getElem_toArray, List.getElem_cons_succ, List.getElem_cons_zero, List.setIfInBounds_toArray, List.set_cons_zero, List.set_cons_succ]
                refine wpAnyH_take (i := 22) (v := .int .i64 j) rfl (by kernel_rfl) (by kernel_rfl) (by kernel_rfl) (fun _ _ _ h => h) (Or.inl ⟨by rfl, fun w hSw => by go_simp <;> exact HWJ.out⟩) hHeld ?_
                try simp only [Act.put, List.getElem_toArray, List.getElem_cons_succ, List.getElem_cons_zero, List.setIfInBounds_toArray, List.set_cons_zero, List.set_cons_succ]
                refine wpAnyH_take (i := 23) (v := .pointer (some ⟨b, o + j * 9, none⟩)) rfl (by kernel_rfl) (by kernel_rfl) (by kernel_rfl) (fun _ _ _ h => h) (Or.inl ⟨by rfl, fun w hSw => by go_simp⟩) hHeld ?_
                try simp only [Act.put, List.getElem_toArray, List.getElem_cons_succ, List.getElem_cons_zero, List.setIfInBounds_toArray, List.set_cons_zero, List.set_cons_succ]
                refine wpAnyH_take (i := 24) (v := .agg L2.toArray) rfl (by kernel_rfl) (by kernel_rfl) (by kernel_rfl) (fun _ _ _ h => h) (yieldsIf_load_mid (by rfl) _ _ rfl _ _ rfl L2 _ (fun _ h => h.2.1) HU.out rfl HI2.out) hHeld ?_
                try simp only [Act.put, List.getElem_toArray, List.getElem_cons_succ, List.getElem_cons_zero, List.setIfInBounds_toArray, List.set_cons_zero, List.set_cons_succ]
                refine wpAnyH_take (i := 25) (v := .slice (some ⟨b, o, none⟩) n c) rfl (by kernel_rfl) (by kernel_rfl) (by kernel_rfl) (fun _ _ _ h => h) (Or.inl ⟨by rfl, fun w hSw => by go_simp⟩) hHeld ?_
                try simp only [Act.put, List.getElem_toArray, List.getElem_cons_succ, List.getElem_cons_zero, List.setIfInBounds_toArray, List.set_cons_zero, List.set_cons_succ]
                refine wpAnyH_take (i := 26) (v := .int .i64 k) rfl (by kernel_rfl) (by kernel_rfl) (by kernel_rfl) (fun _ _ _ h => h) (Or.inl ⟨by rfl, fun w hSw => by go_simp⟩) hHeld ?_
                try simp only [Act.put, List.getElem_toArray, List.getElem_cons_succ, List.getElem_cons_zero, List.setIfInBounds_toArray, List.set_cons_zero, List.set_cons_succ]
                refine wpAnyH_take (i := 27) (v := .pointer (some ⟨b, o + k * 9, none⟩)) rfl (by kernel_rfl) (by kernel_rfl) (by kernel_rfl) (fun _ _ _ h => h) (Or.inl ⟨by rfl, fun w hSw => by go_simp⟩) hHeld ?_
                try simp only [Act.put, List.getElem_toArray, List.getElem_cons_succ, List.getElem_cons_zero, List.setIfInBounds_toArray, List.set_cons_zero, List.set_cons_succ]
                refine wpAnyH_take (i := 28) (v := .agg L1.toArray) rfl (by kernel_rfl) (by kernel_rfl) (by kernel_rfl) (fun _ _ _ h => h) (yieldsIf_load_mid (by rfl) _ _ rfl _ _ rfl L1 _ (fun _ h => h.1) HU.out rfl HI1.out) hHeld ?_
                try simp only [Act.put, List.getElem_toArray, List.getElem_cons_succ, List.getElem_cons_zero, List.setIfInBounds_toArray, List.set_cons_zero, List.set_cons_succ]
                refine wpAnyH_ready (rs := [29]) (by kernel_rfl) (by simp) ?_
                refine AllReadyH.cons rfl (fun K hK => ?_) AllReadyH.nil
                clear hHeld
                rw [if_pos (by rfl)]
                simp only [List.getElem_toArray, List.getElem_cons_succ, List.getElem_cons_zero]
                go_simp
                refine (HSE.out wr.drew HP0.out).mono ?_
                rintro er v1 ⟨rfl, hb1⟩
                have hB1 : Below wr.heap.size wr v1 := ⟨hb1.os, hb1.tape, hb1.output, hb1.size, hb1.block⟩
                go_wp2_with fail
                refine hK.out _ _ (HSB.out _ hB1) (fun hHeld => ?_)
                clear hK K
                try simp only [Act.put, List.getElem_toArray, List.getElem_cons_succ, List.getElem_cons_zero, List.setIfInBounds_toArray, List.set_cons_zero, List.set_cons_succ]
                refine wpAnyH_take (i := 30) (v := .bool false) rfl (by kernel_rfl) (by kernel_rfl) (by kernel_rfl) (fun _ _ _ h => h) (Or.inl ⟨by rfl, fun w hSw => by go_simp⟩) hHeld ?_
                try simp only [Act.put, List.getElem_toArray, List.getElem_cons_succ, List.getElem_cons_zero, List.setIfInBounds_toArray, List.set_cons_zero, List.set_cons_succ]
                clear hHeld
                refine wpAnyH_done (by kernel_rfl) ?_ _
                have HB1 := Lib.hid (HBI.out.trans (hB1.mono HBI.out.size))
                clear hb1 hB1 x0
                obtain ⟨x0, x1, x2, x3, x4, x5, x6, x7, x8⟩ := ev_cells (fun j v hv => (HB1.out.cell (p := ⟨b, o + j, none⟩) HBL.out).trans (HC1.out j v hv)) HK1.out rfl
                have he1 := (HEA.out.below HB1.out).at HK1.out
                have HSAY := Lib.hid (rsay_any (la.getD k EvR.none) (l.getD k evNone) m _ (by omega) he1 HEI.out.1 HEI.out.2)
                have hbw1 := Nat.lt_of_lt_of_le HBL.out HB1.out.size
                clear he1
                unfold RSay at HSAY
                generalize la.getD k EvR.none = a at *
                obtain ⟨k1, t1, ⟨qk1, qa1, qv1, qd1, QA1, qn1, qc1⟩, i1, OA1, on1, oc1⟩ := a
                unfold evV at HSAY
                simp only at x0 x1 x2 x3 x4 x5 x6 x7 x8 HSAY
                generalize evS (l.getD k evNone) m = S at *
                cases hok : okE (l.getD k evNone) with
                | false =>
                  rw [hok] at HSAY HOK
                  have HV := Lib.hid (textD_no (l := l) (by rw [HOK.out]; rfl))
                  clear hok
                  go_wp2_with (go_at_call 62; refine HSAY.out.mono ?_; rintro er w2 ⟨⟨s, rfl, _⟩, hb2⟩; have HB2 := Lib.hid (HB1.out.trans (hb2.mono HB1.out.size)); clear hb2)
                  go_ret2
                  exact ⟨by rw [HV.out]; rfl, HB2.out⟩
                | true =>
                  rw [hok] at HSAY HOK
                  clear hok
                  by_cases h120 : S.size ≤ 120
                  · have d1 : ¬ (120 : Int) < (S.size : Int) := by omega
                    have d2 : ¬ 9223372036854775807 < T.size + S.size := by omega
                    have d3 : ¬ 9223372036854775807 < T.size + S.size + 1 := by omega
                    have d4 : ¬ 9223372036854775807 < (T ++ S).size + 1 := by rw [ByteArray.size_append]; exact d3
                    have HOK2 : RowKit.Hid (okG (l.drop (k + m)) = okG l) := Lib.hid (by rw [HOK.out, decide_eq_true h120]; simp)
                    have HAS : RowKit.Hid (T ++ S ++ ⟨#[10]⟩ = T ++ (S ++ ⟨#[10]⟩)) := Lib.hid ByteArray.append_assoc
                    rw [← HAS.out] at HTX
                    have HSZ2 : RowKit.Hid ((T ++ S ++ ⟨#[10]⟩ : ByteArray).size ≤ 65657) := Lib.hid (by
                      have e1 : (⟨#[10]⟩ : ByteArray).size = 1 := rfl
                      rw [ByteArray.size_append, ByteArray.size_append, e1]; omega)
                    go_upto_region 11 with (go_at_call 62; refine HSAY.out.mono ?_; rintro er w2 ⟨⟨s, rfl, hse⟩, hb2⟩; have HB2 := Lib.hid (HB1.out.trans (hb2.mono HB1.out.size)); obtain rfl := hse rfl; clear hb2)
                    clear d2 d3 d4 HAS h120 d1
                    generalize (T ++ s ++ ⟨#[10]⟩ : ByteArray) = T2 at *
                    have hz2 := HSZ2.out
                    by_cases hbig : 65536 < T2.size
                    · have q9 : (65536 : Int) < (T2.size : Int) := by omega
                      have HV := Lib.hid (textD_big (text_big HTX.out hbig))
                      go_wp2_with fail
                      go_ret2
                      exact ⟨by rw [HV.out]; rfl, HB2.out⟩
                    · have q9 : ¬ (65536 : Int) < (T2.size : Int) := by omega
                      have HBG := Lib.hid hbig
                      clear hbig
                      go_wp2_with fail
                      go_roundg (n - (k + m))
                      case measure => rw [HG.out]; omega
                      case rel => exact ⟨k + m, T2, rfl, rfl, by go_num, ⟨by omega, HTX.out, HOK2.out, Nat.le_of_not_lt HBG.out⟩, HB2.out⟩
                  · have d1 : (120 : Int) < (S.size : Int) := by omega
                    have HV := Lib.hid (textD_no (l := l) (by rw [HOK.out, decide_eq_false h120]; rfl))
                    go_wp2_with (go_at_call 62; refine HSAY.out.mono ?_; rintro er w2 ⟨⟨s, rfl, hse⟩, hb2⟩; have HB2 := Lib.hid (HB1.out.trans (hb2.mono HB1.out.size)); obtain rfl := hse rfl; clear hb2)
                    go_ret2
                    exact ⟨by rw [HV.out]; rfl, HB2.out⟩
              · have q6 : ¬ ((m : Int) < 1000) := by omega
                have q5 : (k : Int) + (m : Int) < (n : Int) := by omega
                go_upto_region 5 with (fail)
                go_quiet (fail)
                have HB1 := Lib.hid (Below.drewN' HBI.out nq)
                clear x0 x1 x2 x3 x4 x5 x6 x7 x8
                obtain ⟨x0, x1, x2, x3, x4, x5, x6, x7, x8⟩ := ev_cells (fun j v hv => (HB1.out.cell (p := ⟨b, o + j, none⟩) HBL.out).trans (HC1.out j v hv)) HK1.out rfl
                have he1 := (HEA.out.below HB1.out).at HK1.out
                have HSAY := Lib.hid (rsay_any (la.getD k EvR.none) (l.getD k evNone) m _ (by omega) he1 HEI.out.1 HEI.out.2)
                have hbw1 := Nat.lt_of_lt_of_le HBL.out HB1.out.size
                clear he1
                unfold RSay at HSAY
                generalize la.getD k EvR.none = a at *
                obtain ⟨k1, t1, ⟨qk1, qa1, qv1, qd1, QA1, qn1, qc1⟩, i1, OA1, on1, oc1⟩ := a
                unfold evV at HSAY
                simp only at x0 x1 x2 x3 x4 x5 x6 x7 x8 HSAY
                generalize evS (l.getD k evNone) m = S at *
                cases hok : okE (l.getD k evNone) with
                | false =>
                  rw [hok] at HSAY HOK
                  have HV := Lib.hid (textD_no (l := l) (by rw [HOK.out]; rfl))
                  clear hok
                  go_wp2_with (go_at_call 62; refine HSAY.out.mono ?_; rintro er w2 ⟨⟨s, rfl, _⟩, hb2⟩; have HB2 := Lib.hid (HB1.out.trans (hb2.mono HB1.out.size)); clear hb2)
                  go_ret2
                  exact ⟨by rw [HV.out]; rfl, HB2.out⟩
                | true =>
                  rw [hok] at HSAY HOK
                  clear hok
                  by_cases h120 : S.size ≤ 120
                  · have d1 : ¬ (120 : Int) < (S.size : Int) := by omega
                    have d2 : ¬ 9223372036854775807 < T.size + S.size := by omega
                    have d3 : ¬ 9223372036854775807 < T.size + S.size + 1 := by omega
                    have d4 : ¬ 9223372036854775807 < (T ++ S).size + 1 := by rw [ByteArray.size_append]; exact d3
                    have HOK2 : RowKit.Hid (okG (l.drop (k + m)) = okG l) := Lib.hid (by rw [HOK.out, decide_eq_true h120]; simp)
                    have HAS : RowKit.Hid (T ++ S ++ ⟨#[10]⟩ = T ++ (S ++ ⟨#[10]⟩)) := Lib.hid ByteArray.append_assoc
                    rw [← HAS.out] at HTX
                    have HSZ2 : RowKit.Hid ((T ++ S ++ ⟨#[10]⟩ : ByteArray).size ≤ 65657) := Lib.hid (by
                      have e1 : (⟨#[10]⟩ : ByteArray).size = 1 := rfl
                      rw [ByteArray.size_append, ByteArray.size_append, e1]; omega)
                    go_upto_region 11 with (go_at_call 62; refine HSAY.out.mono ?_; rintro er w2 ⟨⟨s, rfl, hse⟩, hb2⟩; have HB2 := Lib.hid (HB1.out.trans (hb2.mono HB1.out.size)); obtain rfl := hse rfl; clear hb2)
                    clear d2 d3 d4 HAS h120 d1
                    generalize (T ++ s ++ ⟨#[10]⟩ : ByteArray) = T2 at *
                    have hz2 := HSZ2.out
                    by_cases hbig : 65536 < T2.size
                    · have q9 : (65536 : Int) < (T2.size : Int) := by omega
                      have HV := Lib.hid (textD_big (text_big HTX.out hbig))
                      go_wp2_with fail
                      go_ret2
                      exact ⟨by rw [HV.out]; rfl, HB2.out⟩
                    · have q9 : ¬ (65536 : Int) < (T2.size : Int) := by omega
                      have HBG := Lib.hid hbig
                      clear hbig
                      go_wp2_with fail
                      go_roundg (n - (k + m))
                      case measure => rw [HG.out]; omega
                      case rel => exact ⟨k + m, T2, rfl, rfl, by go_num, ⟨by omega, HTX.out, HOK2.out, Nat.le_of_not_lt HBG.out⟩, HB2.out⟩
                  · have d1 : (120 : Int) < (S.size : Int) := by omega
                    have HV := Lib.hid (textD_no (l := l) (by rw [HOK.out, decide_eq_false h120]; rfl))
                    go_wp2_with (go_at_call 62; refine HSAY.out.mono ?_; rintro er w2 ⟨⟨s, rfl, hse⟩, hb2⟩; have HB2 := Lib.hid (HB1.out.trans (hb2.mono HB1.out.size)); obtain rfl := hse rfl; clear hb2)
                    go_ret2
                    exact ⟨by rw [HV.out]; rfl, HB2.out⟩
            · have q5 : ¬ ((k : Int) + (m : Int) < (n : Int)) := by omega
              go_upto_region 5 with (fail)
              go_quiet (fail)
              have HB1 := Lib.hid (Below.drewN' HBI.out nq)
              clear x0 x1 x2 x3 x4 x5 x6 x7 x8
              obtain ⟨x0, x1, x2, x3, x4, x5, x6, x7, x8⟩ := ev_cells (fun j v hv => (HB1.out.cell (p := ⟨b, o + j, none⟩) HBL.out).trans (HC1.out j v hv)) HK1.out rfl
              have he1 := (HEA.out.below HB1.out).at HK1.out
              have HSAY := Lib.hid (rsay_any (la.getD k EvR.none) (l.getD k evNone) m _ (by omega) he1 HEI.out.1 HEI.out.2)
              have hbw1 := Nat.lt_of_lt_of_le HBL.out HB1.out.size
              clear he1
              unfold RSay at HSAY
              generalize la.getD k EvR.none = a at *
              obtain ⟨k1, t1, ⟨qk1, qa1, qv1, qd1, QA1, qn1, qc1⟩, i1, OA1, on1, oc1⟩ := a
              unfold evV at HSAY
              simp only at x0 x1 x2 x3 x4 x5 x6 x7 x8 HSAY
              generalize evS (l.getD k evNone) m = S at *
              cases hok : okE (l.getD k evNone) with
              | false =>
                rw [hok] at HSAY HOK
                have HV := Lib.hid (textD_no (l := l) (by rw [HOK.out]; rfl))
                clear hok
                go_wp2_with (go_at_call 62; refine HSAY.out.mono ?_; rintro er w2 ⟨⟨s, rfl, _⟩, hb2⟩; have HB2 := Lib.hid (HB1.out.trans (hb2.mono HB1.out.size)); clear hb2)
                go_ret2
                exact ⟨by rw [HV.out]; rfl, HB2.out⟩
              | true =>
                rw [hok] at HSAY HOK
                clear hok
                by_cases h120 : S.size ≤ 120
                · have d1 : ¬ (120 : Int) < (S.size : Int) := by omega
                  have d2 : ¬ 9223372036854775807 < T.size + S.size := by omega
                  have d3 : ¬ 9223372036854775807 < T.size + S.size + 1 := by omega
                  have d4 : ¬ 9223372036854775807 < (T ++ S).size + 1 := by rw [ByteArray.size_append]; exact d3
                  have HOK2 : RowKit.Hid (okG (l.drop (k + m)) = okG l) := Lib.hid (by rw [HOK.out, decide_eq_true h120]; simp)
                  have HAS : RowKit.Hid (T ++ S ++ ⟨#[10]⟩ = T ++ (S ++ ⟨#[10]⟩)) := Lib.hid ByteArray.append_assoc
                  rw [← HAS.out] at HTX
                  have HSZ2 : RowKit.Hid ((T ++ S ++ ⟨#[10]⟩ : ByteArray).size ≤ 65657) := Lib.hid (by
                    have e1 : (⟨#[10]⟩ : ByteArray).size = 1 := rfl
                    rw [ByteArray.size_append, ByteArray.size_append, e1]; omega)
                  go_upto_region 11 with (go_at_call 62; refine HSAY.out.mono ?_; rintro er w2 ⟨⟨s, rfl, hse⟩, hb2⟩; have HB2 := Lib.hid (HB1.out.trans (hb2.mono HB1.out.size)); obtain rfl := hse rfl; clear hb2)
                  clear d2 d3 d4 HAS h120 d1
                  generalize (T ++ s ++ ⟨#[10]⟩ : ByteArray) = T2 at *
                  have hz2 := HSZ2.out
                  by_cases hbig : 65536 < T2.size
                  · have q9 : (65536 : Int) < (T2.size : Int) := by omega
                    have HV := Lib.hid (textD_big (text_big HTX.out hbig))
                    go_wp2_with fail
                    go_ret2
                    exact ⟨by rw [HV.out]; rfl, HB2.out⟩
                  · have q9 : ¬ (65536 : Int) < (T2.size : Int) := by omega
                    have HBG := Lib.hid hbig
                    clear hbig
                    go_wp2_with fail
                    go_roundg (n - (k + m))
                    case measure => rw [HG.out]; omega
                    case rel => exact ⟨k + m, T2, rfl, rfl, by go_num, ⟨by omega, HTX.out, HOK2.out, Nat.le_of_not_lt HBG.out⟩, HB2.out⟩
                · have d1 : (120 : Int) < (S.size : Int) := by omega
                  have HV := Lib.hid (textD_no (l := l) (by rw [HOK.out, decide_eq_false h120]; rfl))
                  go_wp2_with (go_at_call 62; refine HSAY.out.mono ?_; rintro er w2 ⟨⟨s, rfl, hse⟩, hb2⟩; have HB2 := Lib.hid (HB1.out.trans (hb2.mono HB1.out.size)); obtain rfl := hse rfl; clear hb2)
                  go_ret2
                  exact ⟨by rw [HV.out]; rfl, HB2.out⟩
          · generalize (l.getD k evNone).kind = kd at hp x0
            have q5 : (kd == (1 : Int)) = false := beq_eq_false_iff_ne.2 hp
            go_upto_region 5 with (fail)
            go_quiet (fail)
            have HB1 := Lib.hid (Below.drewN' HBI.out nq)
            clear x0 x1 x2 x3 x4 x5 x6 x7 x8
            obtain ⟨x0, x1, x2, x3, x4, x5, x6, x7, x8⟩ := ev_cells (fun j v hv => (HB1.out.cell (p := ⟨b, o + j, none⟩) HBL.out).trans (HC1.out j v hv)) HK1.out rfl
            have he1 := (HEA.out.below HB1.out).at HK1.out
            have HSAY := Lib.hid (rsay_any (la.getD k EvR.none) (l.getD k evNone) m _ (by omega) he1 HEI.out.1 HEI.out.2)
            have hbw1 := Nat.lt_of_lt_of_le HBL.out HB1.out.size
            clear he1
            unfold RSay at HSAY
            generalize la.getD k EvR.none = a at *
            obtain ⟨k1, t1, ⟨qk1, qa1, qv1, qd1, QA1, qn1, qc1⟩, i1, OA1, on1, oc1⟩ := a
            unfold evV at HSAY
            simp only at x0 x1 x2 x3 x4 x5 x6 x7 x8 HSAY
            generalize evS (l.getD k evNone) m = S at *
            cases hok : okE (l.getD k evNone) with
            | false =>
              rw [hok] at HSAY HOK
              have HV := Lib.hid (textD_no (l := l) (by rw [HOK.out]; rfl))
              clear hok
              go_wp2_with (go_at_call 62; refine HSAY.out.mono ?_; rintro er w2 ⟨⟨s, rfl, _⟩, hb2⟩; have HB2 := Lib.hid (HB1.out.trans (hb2.mono HB1.out.size)); clear hb2)
              go_ret2
              exact ⟨by rw [HV.out]; rfl, HB2.out⟩
            | true =>
              rw [hok] at HSAY HOK
              clear hok
              by_cases h120 : S.size ≤ 120
              · have d1 : ¬ (120 : Int) < (S.size : Int) := by omega
                have d2 : ¬ 9223372036854775807 < T.size + S.size := by omega
                have d3 : ¬ 9223372036854775807 < T.size + S.size + 1 := by omega
                have d4 : ¬ 9223372036854775807 < (T ++ S).size + 1 := by rw [ByteArray.size_append]; exact d3
                have HOK2 : RowKit.Hid (okG (l.drop (k + m)) = okG l) := Lib.hid (by rw [HOK.out, decide_eq_true h120]; simp)
                have HAS : RowKit.Hid (T ++ S ++ ⟨#[10]⟩ = T ++ (S ++ ⟨#[10]⟩)) := Lib.hid ByteArray.append_assoc
                rw [← HAS.out] at HTX
                have HSZ2 : RowKit.Hid ((T ++ S ++ ⟨#[10]⟩ : ByteArray).size ≤ 65657) := Lib.hid (by
                  have e1 : (⟨#[10]⟩ : ByteArray).size = 1 := rfl
                  rw [ByteArray.size_append, ByteArray.size_append, e1]; omega)
                go_upto_region 11 with (go_at_call 62; refine HSAY.out.mono ?_; rintro er w2 ⟨⟨s, rfl, hse⟩, hb2⟩; have HB2 := Lib.hid (HB1.out.trans (hb2.mono HB1.out.size)); obtain rfl := hse rfl; clear hb2)
                clear d2 d3 d4 HAS h120 d1
                generalize (T ++ s ++ ⟨#[10]⟩ : ByteArray) = T2 at *
                have hz2 := HSZ2.out
                by_cases hbig : 65536 < T2.size
                · have q9 : (65536 : Int) < (T2.size : Int) := by omega
                  have HV := Lib.hid (textD_big (text_big HTX.out hbig))
                  go_wp2_with fail
                  go_ret2
                  exact ⟨by rw [HV.out]; rfl, HB2.out⟩
                · have q9 : ¬ (65536 : Int) < (T2.size : Int) := by omega
                  have HBG := Lib.hid hbig
                  clear hbig
                  go_wp2_with fail
                  go_roundg (n - (k + m))
                  case measure => rw [HG.out]; omega
                  case rel => exact ⟨k + m, T2, rfl, rfl, by go_num, ⟨by omega, HTX.out, HOK2.out, Nat.le_of_not_lt HBG.out⟩, HB2.out⟩
              · have d1 : (120 : Int) < (S.size : Int) := by omega
                have HV := Lib.hid (textD_no (l := l) (by rw [HOK.out, decide_eq_false h120]; rfl))
                go_wp2_with (go_at_call 62; refine HSAY.out.mono ?_; rintro er w2 ⟨⟨s, rfl, hse⟩, hb2⟩; have HB2 := Lib.hid (HB1.out.trans (hb2.mono HB1.out.size)); obtain rfl := hse rfl; clear hb2)
                go_ret2
                exact ⟨by rw [HV.out]; rfl, HB2.out⟩
    · obtain rfl : k = n := by omega
      have q1 : ¬ (k : Int) < (k : Int) := by omega
      have hd : l.drop k = [] := List.drop_eq_nil_of_le (by rw [HLN.out]; exact Nat.le_refl _)
      have HTX : RowKit.Hid (T = textG l) := Lib.hid (by have h := HS.out.txt; rw [hd, textG_nil, app_nil] at h; exact h)
      have HOK : RowKit.Hid (okG l = true) := Lib.hid (by have h := HS.out.ok; rw [hd, okG_nil] at h; exact h.symm)
      have HSZ : RowKit.Hid ((textG l).size ≤ 65536) := Lib.hid (by rw [← HTX.out]; exact HS.out.sz)
      by_cases hbig : 16384 < k
      · have q3 : (16384 : Int) < (k : Int) := by omega
        have HV := Lib.hid (textD_many (l := l) (by rw [HLN.out]; exact hbig))
        go_wp2_with fail
        go_ret2
        exact ⟨by rw [HV.out]; rfl, HBW.out⟩
      · have q3 : ¬ (16384 : Int) < (k : Int) := by omega
        have HV := Lib.hid (textD_all HOK.out HSZ.out (by rw [HLN.out]; omega))
        go_wp2_with fail
        go_ret2
        exact ⟨by rw [HV.out, HTX.out]; rfl, HBW.out⟩

end Go.Proofs.YtalkllfgedacoaaGreatDoor
