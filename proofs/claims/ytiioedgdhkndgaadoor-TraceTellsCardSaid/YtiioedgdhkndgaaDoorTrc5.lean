/- The document's Changed, walked: the words that were changed, found one after another. -/
import Derived.Test.YtiioedgdhkndgaaDoorSel
namespace Go.Proofs.YtiioedgdhkndgaaDoor
open Go.RowKit Go.Sort

theorem take_snoc {S : List Int} {k : Nat} {b : Int} (h : S[k]? = some b) : S.take (k + 1) = S.take k ++ [b] := by
  rw [List.take_add_one, h]; rfl

set_option maxHeartbeats 16000000 in
set_option maxRecDepth 100000 in
theorem rChanged_any (B : Option Addr) (c : Nat) (l : List Acc) (w : World) (hl : l.length ≤ 2097151) (hR : Rd w B (accs l)) :
    Calls Tryd.prog 60 #[.slice B l.length c] w fun e w' => ∃ A d, e = .returned (.slice A (chgS l).length d) ∧ Rd w' A (ints (chgS l)) ∧ Below w.heap.size w w' := by
  have HR := Lib.hid hR
  have HBA := Lib.hid (bst_at l)
  have hsl := chgS_le l
  generalize chgS l = S at *
  generalize hn : l.length = n at *
  generalize hN : S.length = N at *
  have HN := Lib.hid hn
  have HL := Lib.hid hN
  clear hR hn hN
  go_enter Tryd.func60, Tryd.ntmps60
  go_wp2
  go_loopg [3] (N + 1) (fun g s wr => ∃ (k : Nat) (V : Option Addr) (cv : Nat), k ≤ N ∧ g = N + 1 - k ∧ s = .slice V k cv ∧ wr.ownsRow w.heap.size 3 1 (.slice V k cv) k (ints (S.take k)) ∧ Below w.heap.size w wr)
  case atStart => exact ⟨0, none, 0, Nat.zero_le _, rfl, rfl, own_nil _ _ _ _, Below.refl _ _⟩
  case round =>
    obtain ⟨k, V, cv, hk, hg, rfl, hown, hb⟩ := hrel
    have HG := Lib.hid hg
    have HB := Lib.hid hb
    have HO := Lib.hid hown
    have HBK := Lib.hid (HBA.out k hk)
    clear hg hb hown
    go_wp2
    go_loopg [4, 5, 11] n (fun g bv fv i wi => ∃ j : Nat, j ≤ n ∧ g = n - j ∧ i = .int .i64 j ∧ bv = .int .i64 ((bst (S.take k) (l.take j)).getD (-1)) ∧ fv = .bool (bst (S.take k) (l.take j)).isSome ∧ Below wr.heap.size wr wi)
    case atStart => exact ⟨0, Nat.zero_le _, rfl, rfl, rfl, rfl, Below.refl _ _⟩
    case round =>
      obtain ⟨j, hj, hgi, rfl, rfl, rfl, hbi⟩ := hrel
      have HGI := Lib.hid hgi
      have HBI := Lib.hid hbi
      clear hgi hbi
      by_cases hlt : j < n
      · have hjl : j < l.length := by rw [HN.out]; exact hlt
        obtain ⟨b, o, rfl, hbl, hc⟩ := HR.out.at_ (by rw [accs_length, HN.out]; omega)
        have hcr : ∀ i v, (accs l)[i]? = some v → wr.cell? ⟨b, o + i, none⟩ = some v := fun i v hi => by
          rw [HBI.out.cell (p := ⟨b, o + i, none⟩) (Nat.lt_of_lt_of_le hbl HB.out.size), HB.out.cell (p := ⟨b, o + i, none⟩) hbl]; exact hc i v hi
        generalize hx : l.getD j Acc.none = x
        obtain ⟨e0, e1, e2, e3, e4, e5, e6⟩ := acc_cells hcr hjl hx
        have HTK := Lib.hid (takeA hjl hx)
        have HSN := Lib.hid (bst_snoc (S.take k) (l.take j) x)
        have HF := Lib.hid (fun W => rChanges_any x W)
        have HOI := Lib.hid (own_below HO.out HBI.out)
        clear hcr hc hx hjl
        generalize bst (S.take k) (l.take j) = acc at *
        have HST : RowKit.Hid (bstep (S.take k) acc x = if chgB x && lateB (S.take k) x.addr && (!acc.isSome || decide (x.addr < acc.getD (-1))) then some x.addr else acc) := Lib.hid rfl
        have hlk : (S.take k).length = k := by rw [List.length_take, HL.out]; omega
        rcases Nat.eq_zero_or_pos k with hk0 | hk0
        · subst hk0
          have hla : lateB (S.take 0) x.addr = true := rfl
          rw [hla] at HST
          clear hla hlk
          cases hcb : chgB x
          · rw [hcb] at HF HST
            rw [Bool.false_and, Bool.false_and, if_neg (by simp)] at HST
            clear hcb
            go_wp2_with fail
            go_quiet (fail)
            go_wp2_with fail
            refine (HF.out _).mono ?_
            rintro e w2 ⟨rfl, hb2⟩
            have z2 := (hb2.cell (p := ⟨wr.heap.size, 2, none⟩) (by simp))
            simp at z2
            have HB2 := Lib.hid ((Below.drewN' (HBI.out.alloc HBI.out.size (.cells #[.int .i64 x.thread, .int .i64 x.kind, .int .i64 x.addr, .int .u64 x.want, .int .u64 x.old, .int .u64 x.now, .bool x.ok] 74)) _).trans (hb2.mono (by have := HBI.out.size; simp; omega)))
            clear hb2
            go_wp2
            go_roundg (n - (j + 1))
            case measure => rw [HGI.out]; omega
            case rel => exact ⟨j + 1, by omega, rfl, by go_num, by rw [HTK.out, HSN.out, HST.out]; try rfl, by rw [HTK.out, HSN.out, HST.out]; try rfl, HB2.out⟩
          · rw [hcb] at HF HST
            rw [Bool.and_true, Bool.true_and] at HST
            clear hcb
            cases acc with
            | none =>
              rw [if_pos (by rfl)] at HST
              simp only [Option.getD_none, Option.isSome_none]
              go_wp2_with fail
              go_quiet (fail)
              go_wp2_with fail
              refine (HF.out _).mono ?_
              rintro e w2 ⟨rfl, hb2⟩
              have z2 := (hb2.cell (p := ⟨wr.heap.size, 2, none⟩) (by simp))
              simp at z2
              have HB2 := Lib.hid ((Below.drewN' (HBI.out.alloc HBI.out.size (.cells #[.int .i64 x.thread, .int .i64 x.kind, .int .i64 x.addr, .int .u64 x.want, .int .u64 x.old, .int .u64 x.now, .bool x.ok] 74)) _).trans (hb2.mono (by have := HBI.out.size; simp; omega)))
              clear hb2
              go_wp2
              go_roundg (n - (j + 1))
              case measure => rw [HGI.out]; omega
              case rel => exact ⟨j + 1, by omega, rfl, by go_num, by rw [HTK.out, HSN.out, HST.out]; try rfl, by rw [HTK.out, HSN.out, HST.out]; try rfl, HB2.out⟩
            | some z =>
              simp only [Option.getD_some, Option.isSome_some, Bool.not_true, Bool.false_or] at HST
              cases hzx : decide (x.addr < z)
              all_goals
                rw [hzx] at HST
                simp only [Option.getD_some, Option.isSome_some]
                go_wp2_with fail
                go_quiet (fail)
                go_wp2_with fail
                refine (HF.out _).mono ?_
                rintro e w2 ⟨rfl, hb2⟩
                have z2 := (hb2.cell (p := ⟨wr.heap.size, 2, none⟩) (by simp))
                simp at z2
                have HB2 := Lib.hid ((Below.drewN' (HBI.out.alloc HBI.out.size (.cells #[.int .i64 x.thread, .int .i64 x.kind, .int .i64 x.addr, .int .u64 x.want, .int .u64 x.old, .int .u64 x.now, .bool x.ok] 74)) _).trans (hb2.mono (by have := HBI.out.size; simp; omega)))
                clear hb2
                go_wp2
                go_roundg (n - (j + 1))
                case measure => rw [HGI.out]; omega
                case rel => exact ⟨j + 1, by omega, rfl, by go_num, by rw [HTK.out, HSN.out, HST.out]; try rfl, by rw [HTK.out, HSN.out, HST.out]; try rfl, HB2.out⟩
        · obtain ⟨k, rfl⟩ : ∃ k', k = k' + 1 := ⟨k - 1, by omega⟩
          obtain ⟨g, rfl, hbg, hgl⟩ := own_some HO.out (by omega)
          have hy := HOI.out
          obtain ⟨g', o', hgo, hgl2, hcc⟩ := (own_rd HOI.out).at_ (by rw [ints_length, hlk]; omega)
          injection hgo with hgo
          injection hgo with hg1 hg2
          subst hg1 hg2
          have x1 := hcc k _ (ints_at (by rw [hlk]; omega))
          rw [Nat.zero_add] at x1
          have hla : lateB (S.take (k + 1)) x.addr = decide ((S.take (k + 1)).getD k 0 < x.addr) := by
            unfold lateB
            rw [hlk, show (((k + 1 : Nat) : Int) == 0) = false by simp; omega, Bool.false_or, Nat.add_sub_cancel]
          rw [hla] at HST
          generalize (S.take (k + 1)).getD k 0 = y at *
          have hne : (((k : Int) + 1) == 0) = false := by simp; omega
          have x2 := fun o2 => World.cell?_alloc_lt wr o2 ⟨g, k, none⟩ hgl2
          have HXY := Lib.hid x1
          clear hla hcc hlk hy
          cases hlat : decide (y < x.addr)
          · rw [hlat, Bool.and_false, Bool.false_and, if_neg (by simp)] at HST
            cases hcb : chgB x
            all_goals
              rw [hcb] at HF
              clear hcb
              go_wp2_with fail
              go_quiet (fail)
              go_wp2_with fail
              refine (HF.out _).mono ?_
              rintro e w2 ⟨rfl, hb2⟩
              have z2 := (hb2.cell (p := ⟨wr.heap.size, 2, none⟩) (by simp))
              simp at z2
              have HB2 := Lib.hid ((Below.drewN' (HBI.out.alloc HBI.out.size (.cells #[.int .i64 x.thread, .int .i64 x.kind, .int .i64 x.addr, .int .u64 x.want, .int .u64 x.old, .int .u64 x.now, .bool x.ok] 74)) _).trans (hb2.mono (by have := HBI.out.size; simp; omega)))
              clear hb2
              go_wp2
              go_roundg (n - (j + 1))
              case measure => rw [HGI.out]; omega
              case rel => exact ⟨j + 1, by omega, rfl, by go_num, by rw [HTK.out, HSN.out, HST.out]; try rfl, by rw [HTK.out, HSN.out, HST.out]; try rfl, HB2.out⟩
          · rw [hlat] at HST
            cases hcb : chgB x
            · rw [hcb] at HF HST
              rw [Bool.false_and, Bool.false_and, if_neg (by simp)] at HST
              clear hcb
              go_wp2_with fail
              go_quiet (fail)
              go_wp2_with fail
              refine (HF.out _).mono ?_
              rintro e w2 ⟨rfl, hb2⟩
              have z2 := (hb2.cell (p := ⟨wr.heap.size, 2, none⟩) (by simp))
              simp at z2
              have HB2 := Lib.hid ((Below.drewN' (HBI.out.alloc HBI.out.size (.cells #[.int .i64 x.thread, .int .i64 x.kind, .int .i64 x.addr, .int .u64 x.want, .int .u64 x.old, .int .u64 x.now, .bool x.ok] 74)) _).trans (hb2.mono (by have := HBI.out.size; simp; omega)))
              clear hb2
              go_wp2
              go_roundg (n - (j + 1))
              case measure => rw [HGI.out]; omega
              case rel => exact ⟨j + 1, by omega, rfl, by go_num, by rw [HTK.out, HSN.out, HST.out]; try rfl, by rw [HTK.out, HSN.out, HST.out]; try rfl, HB2.out⟩
            · rw [hcb] at HF HST
              rw [Bool.and_true, Bool.true_and] at HST
              clear hcb
              cases acc with
              | none =>
                rw [if_pos (by rfl)] at HST
                simp only [Option.getD_none, Option.isSome_none]
                go_wp2_with fail
                go_quiet (fail)
                go_wp2_with fail
                refine (HF.out _).mono ?_
                rintro e w2 ⟨rfl, hb2⟩
                have z2 := (hb2.cell (p := ⟨wr.heap.size, 2, none⟩) (by simp))
                simp at z2
                have HB2 := Lib.hid ((Below.drewN' (HBI.out.alloc HBI.out.size (.cells #[.int .i64 x.thread, .int .i64 x.kind, .int .i64 x.addr, .int .u64 x.want, .int .u64 x.old, .int .u64 x.now, .bool x.ok] 74)) _).trans (hb2.mono (by have := HBI.out.size; simp; omega)))
                clear hb2
                go_wp2
                go_roundg (n - (j + 1))
                case measure => rw [HGI.out]; omega
                case rel => exact ⟨j + 1, by omega, rfl, by go_num, by rw [HTK.out, HSN.out, HST.out]; try rfl, by rw [HTK.out, HSN.out, HST.out]; try rfl, HB2.out⟩
              | some z =>
                simp only [Option.getD_some, Option.isSome_some, Bool.not_true, Bool.false_or] at HST
                cases hzx : decide (x.addr < z)
                all_goals
                  rw [hzx] at HST
                  simp only [Option.getD_some, Option.isSome_some]
                  go_wp2_with fail
                  go_quiet (fail)
                  go_wp2_with fail
                  refine (HF.out _).mono ?_
                  rintro e w2 ⟨rfl, hb2⟩
                  have z2 := (hb2.cell (p := ⟨wr.heap.size, 2, none⟩) (by simp))
                  simp at z2
                  have HB2 := Lib.hid ((Below.drewN' (HBI.out.alloc HBI.out.size (.cells #[.int .i64 x.thread, .int .i64 x.kind, .int .i64 x.addr, .int .u64 x.want, .int .u64 x.old, .int .u64 x.now, .bool x.ok] 74)) _).trans (hb2.mono (by have := HBI.out.size; simp; omega)))
                  clear hb2
                  go_wp2
                  go_roundg (n - (j + 1))
                  case measure => rw [HGI.out]; omega
                  case rel => exact ⟨j + 1, by omega, rfl, by go_num, by rw [HTK.out, HSN.out, HST.out]; try rfl, by rw [HTK.out, HSN.out, HST.out]; try rfl, HB2.out⟩
      · obtain rfl : n = j := by omega
        have HA : RowKit.Hid (bst (S.take k) (l.take n) = S[k]?) := Lib.hid (by rw [show l.take n = l from List.take_of_length_le (by rw [HN.out]; exact Nat.le_refl _)]; exact HBK.out)
        rw [HA.out]
        cases hsk : S[k]? with
        | none =>
          have hkN : N = k := by rw [List.getElem?_eq_none_iff] at hsk; have := HL.out; omega
          have HK := Lib.hid hkN
          simp only [Option.getD_none, Option.isSome_none]
          clear hkN hsk
          go_wp2
          go_ret
          refine ⟨V, cv, by rw [HK.out]; rfl, ?_, HB.out.trans (HBI.out.mono HB.out.size)⟩
          have := own_rd (own_below HO.out HBI.out)
          rwa [List.take_of_length_le (by rw [HL.out, HK.out]; exact Nat.le_refl _)] at this
        | some z =>
          have HSK := Lib.hid hsk
          have hkN : k < N := by have := (List.getElem?_eq_some_iff.1 hsk).1; have := HL.out; omega
          simp only [Option.getD_some, Option.isSome_some]
          clear hsk
          go_wp2_with (at_builtin; refine append_int (.tmp 50) (.tmp 52) rfl rfl w.heap.size V k cv (S.take k) z wr.heap.size 1 rfl ((own_below HO.out HBI.out).alloc (.cells #[.int .i64 z] 3)) rfl (by simp) (by omega) (by have := HBI.out.size; have := HB.out.size; simp; omega) ?_; intro A3 c3 w3 hown3 hb3 hg3)
          go_roundg (N + 1 - (k + 1))
          case measure => rw [HG.out]; omega
          case rel => exact ⟨k + 1, A3, c3, by omega, rfl, rfl, by rw [take_snoc HSK.out]; exact hown3, ((HB.out.trans (HBI.out.mono HB.out.size)).alloc (by have := HBI.out.size; have := HB.out.size; omega) (.cells #[.int .i64 z] 3)).trans hb3⟩

end Go.Proofs.YtiioedgdhkndgaaDoor
