/- shape.Text, walked. -/
import Derived.Test.YtknlhkkpheahlaaDoorSet
import Derived.Lib.Join
namespace Go.Proofs.YtknlhkkpheahlaaDoor
open Go.RowKit Go.Sort

/-- What stands while a shape's line is written: the shape's box, its fields, the words so far. -/
structure TIn (w0 : World) (b F : Nat) (c : Cfg) (l : List ByteArray) (A : Option Addr) (cap : Nat) (wr : World) : Prop where
  box : Blk wr b 45 (cfgCells c)
  fl : Blk wr F 102 (fldCells b)
  out : wr.ownsRow w0.heap.size 9 1 (.slice A l.length cap) l.length (rows l)
  bel : Below w0.heap.size w0 wr
section
variable {w0 wr w' : World} {b F : Nat} {c : Cfg} {l : List ByteArray} {A : Option Addr} {cap : Nat}
theorem TIn.draw (h : TIn w0 b F c l A cap wr) (hb : Below wr.heap.size wr w') : TIn w0 b F c l A cap w' :=
  ⟨h.box.below hb h.box.lt, h.fl.below hb h.fl.lt, own_below h.out hb, h.bel.trans (hb.mono h.bel.size)⟩
theorem TIn.app (h : TIn w0 b F c l A cap wr) {o : Obj} {x : ByteArray} {A' : Option Addr} {c' : Nat} (hs : w'.ownsRow w0.heap.size 9 1 (.slice A' (l.length + 1) c') (l.length + 1) (rows (l ++ [x])))
    (hg : (wr.alloc o).grownBy w' (Value.slice A l.length cap).ownBlock) : TIn w0 b F c (l ++ [x]) A' c' w' := by
  have hK : Keep (fun k => Value.ownBlock (.slice A l.length cap) = some k) wr w' := ((Keep.refl _ _).alloc o).trans (.of_grown hg (fun k hk => hk))
  refine ⟨hK.blk h.box (fun e => own_blk_ne h.out h.box (by decide) e.symm), hK.blk h.fl (fun e => own_blk_ne h.out h.fl (by decide) e.symm), ?_, h.bel.trans (hK.below (own_block h.out) h.bel.size)⟩
  rw [List.length_append, List.length_singleton]
  exact hs
end

theorem join_size (l : List ByteArray) (h : ∀ x ∈ l, x.data.toList.length ≤ 30) (hl : l.length ≤ 100) : (Lib.join (l.map (·.data.toList)) [32]).length ≤ 140737488355328 := by
  cases l with
  | nil => simp [Lib.join_nil]
  | cons x r =>
    have hx := h x (List.mem_cons_self ..)
    have h1 := join_len 30 (r.map (·.data.toList)) (by
      intro y hy
      rw [List.mem_map] at hy
      obtain ⟨z, hz, rfl⟩ := hy
      exact h z (List.mem_cons_of_mem _ hz))
    rw [List.length_map] at h1
    rw [List.length_cons] at hl
    rw [List.map_cons, Lib.join_cons, List.length_append]
    omega

theorem names_size : ∀ k, k < 9 → (fldNames.getD k ⟨#[]⟩).size ≤ 8 := by decide +kernel
theorem names_shown : ∀ k, k < 9 → ((fldNames.getD k ⟨#[]⟩).toList == [99, 104, 97, 110, 115]) = (k == 1) ∧ ((fldNames.getD k ⟨#[]⟩).toList == [103, 101, 110, 115]) = (k == 8) := by decide +kernel

set_option maxHeartbeats 8000000 in
set_option maxRecDepth 100000 in
theorem Text_shp (c : Cfg) (w : World) (hcf : CfgIn w c) (ht : TabT w) :
    Calls Tryd.prog 25 #[cfgV c] w fun e w' => e = .returned (.string (shpTB c)) ∧ Below w.heap.size w w' := by
  have HCF := Lib.hid hcf
  have HT := Lib.hid ht
  have HTV : RowKit.Hid (shpTB c = if chkB c = true then shpT c else ⟨#[]⟩) := Lib.hid rfl
  clear hcf ht
  by_cases hc : chkB c = true
  case neg =>
    have HC := Lib.hid (show chkB c = false by simpa using hc)
    have HV := Lib.hid (HTV.out.trans (if_neg hc))
    clear hc HTV
    go_enter Tryd.func25, Tryd.ntmps25
    go_wp2_with (go_at_call 62; refine (Check_no c _ (HCF.out.below (Below.alloc (Below.refl _ _) (Nat.le_refl _) _)) HC.out).mono ?_; rintro e w1 ⟨rfl, hb1⟩)
    go_ret
    exact ⟨by rw [HV.out]; rfl, ((Below.refl _ _).alloc (Nat.le_refl _) _).trans (hb1.mono (by simp))⟩
  case pos =>
    have HC := Lib.hid hc
    have HV := Lib.hid (HTV.out.trans (if_pos hc))
    have hn32 := chk_n32 hc
    obtain ⟨hn, hsn, hkw, hsl⟩ := hn32
    have HN := Lib.hid hn
    have HSN := Lib.hid hsn
    have hwf := words_fine hc
    have HWF := Lib.hid hwf
    have HKI := Lib.hid (fun W => kind_any c.kind W)
    have HF0 : RowKit.Hid (fldsTo c 0 = [kindS c.kind]) := Lib.hid rfl
    clear hc HTV hn hsn hwf hkw
    generalize kindS c.kind = ks at *
    go_enter Tryd.func25, Tryd.ntmps25
    go_upto_region 3 with (first
      | (go_at_call 62; refine (Check_ok c _ (HCF.out.below (Below.alloc (Below.refl _ _) (Nat.le_refl _) _)) HC.out).mono ?_; rintro e w1 ⟨rfl, hb1⟩))
    have HB1 := Lib.hid (((Below.refl w.heap.size w).alloc (Nat.le_refl _) _).trans (hb1.mono (by simp)))
    have HX1 := Lib.hid ((Blk.new w 45 (cfgCells c)).below hb1 (by simp))
    have x0 := HX1.out.cell (i := 0) rfl
    have hxl := HX1.out.lt
    clear hb1
    generalize hbb : w.heap.size = b at *
    have HBB := Lib.hid hbb
    clear hbb
    go_upto_region 4 with (first
      | (go_at_call 63; refine (HKI.out _).mono ?_; rintro e w2 ⟨rfl, rfl⟩))
    have HO1 := Lib.hid (own_blk1 (base := b) (s := 1) (n := 1) (cs := rows [ks]) (Blk.new w1 9 (rows [ks])) (by have := HB1.out.size; have := HBB.out; omega) rfl (by unfold maxLen; omega))
    have HW2 := Lib.hid (show Below b w (w1.alloc (.cells #[Value.string ks] 9)) from HB1.out.alloc (by have := HB1.out.size; have := HBB.out; omega) _)
    have HX2 := Lib.hid (HX1.out.alloc (.cells #[Value.string ks] 9))
    clear x0
    go_upto_region 5 with (go_at_call 64; refine (fields_any b _).mono ?_; rintro e w3 ⟨rfl, hF, hb3⟩)
    have HT1 : RowKit.Hid (TIn w b (w1.alloc (.cells #[Value.string ks] 9)).heap.size c [ks] (some ⟨w1.heap.size, 0, none⟩) 1 w3) := Lib.hid (by
      refine ⟨HX2.out.below hb3 HX2.out.lt, hF, ?_, ?_⟩
      · rw [HBB.out]
        exact own_below HO1.out hb3
      · rw [HBB.out]
        exact HW2.out.trans (hb3.mono (by have := HW2.out.size; have := HBB.out; omega)))
    rw [World.size_alloc] at HT1
    clear hF hb3 HO1 HW2 HX2 HX1 HB1
    generalize w1.heap.size + 1 = F at *
    generalize w1.heap.size = O1 at *
    go_loopg [3, 17] 9 (fun gg lv i wr => ∃ (k : Nat) (A : Option Addr) (cp : Nat), k ≤ 9 ∧ gg = 9 - k ∧ i = .int .i64 k ∧ lv = .slice A (fldsTo c k).length cp ∧ TIn w b F c (fldsTo c k) A cp wr)
    case atStart => exact ⟨0, _, _, Nat.zero_le _, rfl, rfl, by rw [HF0.out]; rfl, by rw [HF0.out]; exact HT1.out⟩
    case round =>
      obtain ⟨k, A, cp, hk9, hg, rfl, rfl, hT⟩ := hrel
      clear HT1 HF0
      have HGK := Lib.hid hg
      have hlk := fldsTo_len c k
      have HSTEP : RowKit.Hid (fldsTo c (k + 1) = if shown c k = true then fldsTo c k ++ [fldWd k (fldVal c k)] else fldsTo c k) := Lib.hid rfl
      have HL : RowKit.Hid (fldsTo c k = fldsTo c k) := Lib.hid rfl
      clear hg
      by_cases hk : k < 9
      · have q1 : (k : Int) < 9 := by omega
        have HTN := Lib.hid hT
        have x0 := hT.fl.cell (i := k * 2) (Nat.mul_comm 2 k ▸ fld_name b k hk)
        have x1 := hT.fl.cell (i := k * 2 + 1) (Nat.mul_comm 2 k ▸ fld_at b k hk)
        have xb := hT.box.cell (fld_cell c k hk)
        have xk := hT.box.cell (i := 0) rfl
        have hbl := hT.box.lt
        have hFl := hT.fl.lt
        have hsz := names_size k hk
        obtain ⟨hn1, hn2⟩ := names_shown k hk
        have hv := HN.out k
        have HW : RowKit.Hid (fldWd k (fldVal c k) = fldNames.getD k ⟨#[]⟩ ++ ⟨#[61]⟩ ++ itoaS (fldVal c k)) := Lib.hid rfl
        have HI := Lib.hid (fun W h => Itoa_any (fldVal c k) ⟨by have := hv.1; omega, by have := hv.2; omega⟩ W h)
        have hiz := itoaS_size (n := fldVal c k) ⟨by have := hv.1; omega, by have := hv.2; omega⟩
        clear hv hT
        generalize fldNames.getD k ⟨#[]⟩ = nm at *
        generalize hl : fldsTo c k = l at *
        have HLL := Lib.hid hl
        clear hl
        generalize hln : l.length = ln at *
        have HLN := Lib.hid hln
        clear hln
        have HFC := Lib.hid (fld_cell c k hk)
        generalize fldVal c k = fv at *
        generalize fldWd k fv = fw at *
        generalize itoaS fv = z at *
        by_cases h3 : c.kind = 3
        · have e3 : (c.kind == 3) = true := by simpa using h3
          have HSH : RowKit.Hid (shown c k = true) := Lib.hid (by unfold shown; rw [e3]; rfl)
          clear h3 hn1 hn2
          have HX := Lib.hid (Blk.new wr 102 [.string nm, .pointer (some ⟨b, k + 1, none⟩)])
          have HTW := Lib.hid (HTN.out.draw ((Below.refl wr.heap.size wr).alloc (Nat.le_refl _) (.cells [Value.string nm, .pointer (some ⟨b, k + 1, none⟩)].toArray 102)))
          have HBW := Lib.hid HTN.out.bel
          go_upto_region 8 with (fail)
          clear x0 x1 xb xk hbl hFl
          have hW : RowKit.Hid (wr.alloc (.cells [Value.string nm, .pointer (some ⟨b, k + 1, none⟩)].toArray 102) = wr.alloc (.cells #[Value.string nm, .pointer (some ⟨b, k + 1, none⟩)] 102)) := Lib.hid rfl
          rw [hW.out] at HX HTW
          clear hW
          generalize (wr.alloc (.cells #[Value.string nm, .pointer (some ⟨b, k + 1, none⟩)] 102)) = W at *
          generalize wr.heap.size = gb at *
          have s0 := HX.out.cell (i := 0) rfl
          have s1 := HX.out.cell (i := 1) rfl
          have xb := HTW.out.box.cell HFC.out
          have hgl := HX.out.lt
          have hbl := HTW.out.box.lt
          have HNW := Lib.hid (own_blk_ne (HLN.out ▸ HTW.out.out) HX.out (by decide))
          have HNB := Lib.hid (own_blk_ne (HLN.out ▸ HTW.out.out) HTW.out.box (by decide))
          have HO4 := Lib.hid (show W.ownsRow w.heap.size 9 1 (.slice A ln cp) ln (rows l) from HLN.out ▸ HTW.out.out)
          have HTD := Lib.hid ((HT.out.below HTW.out.bel).below (Below.drewN' (Below.refl W.heap.size W) 1))
          have HWS := Lib.hid HTW.out.bel.size
          have d1 : ¬ 9223372036854775807 < nm.size + 1 := by omega
          have d2 : ¬ 9223372036854775807 < nm.size + 1 + z.size := by omega
          go_region_held3 (fun w' => w'.cell? ⟨gb, 0, none⟩ = some (.string nm) ∧ w'.cell? ⟨gb, 1, none⟩ = some (.pointer (some ⟨b, k + 1, none⟩)) ∧ w'.cell? ⟨b, k + 1, none⟩ = some (.int .i64 fv)) (first | go_keep | (simp only [hk1, hk2]; go_keep)) (first
            | (go_at_call 65; refine (HI.out W.drew HTD.out).mono ?_; rintro er w5 ⟨rfl, hb5⟩; have hB5 : Below W.heap.size W w5 := ⟨hb5.os, hb5.tape, hb5.output, hb5.size, hb5.block⟩; have hk1 := fun o => hB5.cell (p := ⟨gb, o, none⟩) hgl; have hk2 := fun o => hB5.cell (p := ⟨b, o, none⟩) hbl; have hO5 := own_below HO4.out hB5)
            | (refine step_app ?_ (.tmp 34) (.tmp 44) 86 9 ?_ w.heap.size (.string ⟨#[]⟩) 1 16 Tryd.underlying86 str_info ?_ ?_ A ln cp (rows l) ?_ (hO5.alloc _) _ 1 1 (rows [nm ++ ⟨#[61]⟩ ++ z]) (by rfl) ?_ ?_ ?_ (rows_one _) (ln + 1) rfl (rows l ++ rows [nm ++ ⟨#[61]⟩ ++ z]) rfl ?_ ?_ ?_ ?_; rfl; rfl; rfl; decide; rfl; simp; rfl; exact (blk_new (cs := rows [nm ++ ⟨#[61]⟩ ++ z]) (by rfl)).rd; (unfold maxLen; omega); omega; (focus (have := hB5.size; have := HWS.out; rw [World.size_alloc]; omega)); intro A6 d6 w6 hown6 hg6 hb6; have hX6 := blk_grown ((HX.out.below hB5 hgl).alloc _) hg6 HNW.out; have hK6 := blk_grown ((HTW.out.box.below hB5 hbl).alloc _) hg6 HNB.out; have r0 := hX6.cell (i := 0) rfl; have r1 := hX6.cell (i := 1) rfl; have r2 := hK6.cell HFC.out))
          have HT6 := Lib.hid (TIn.app (A' := A6) (c' := d6) (x := nm ++ ⟨#[61]⟩ ++ z) (HTW.out.draw hB5) (by rw [HLN.out, rows_append]; exact hown6) (by rw [HLN.out]; exact hg6))
          clear hk1 hk2 hb5 hB5 hO5 hown6 hg6 hb6 hX6 hK6 s0 s1 xb r0 r1 r2
          go_wp2
          go_roundg (9 - (k + 1))
          case measure => rw [HGK.out]; omega
          case rel =>
            refine ⟨k + 1, A6, d6, by omega, rfl, by go_num, ?_, ?_⟩
            · rw [HSTEP.out, if_pos HSH.out, List.length_append, HLN.out]; rfl
            · rw [HSTEP.out, if_pos HSH.out, HW.out]
              exact HT6.out

        · have e3 : (c.kind == 3) = false := by simpa using h3
          clear h3
          by_cases hk1 : k = 1
          · have e1 : (nm.toList == [99, 104, 97, 110, 115]) = true := by rw [hn1, hk1]; rfl
            have HSH : RowKit.Hid (shown c k = false) := Lib.hid (by unfold shown; rw [e3, hk1]; rfl)
            clear hn1 hn2 hk1
            go_wp2
            go_roundg (9 - (k + 1))
            case measure => rw [HGK.out]; omega
            case rel => exact ⟨k + 1, A, cp, by omega, rfl, by go_num, by rw [HSTEP.out, HSH.out, if_neg Bool.false_ne_true, HLN.out], by rw [HSTEP.out, HSH.out, if_neg Bool.false_ne_true]; exact (HTN.out.draw ((Below.refl _ _).alloc (Nat.le_refl _) _))⟩

          · by_cases hk8 : k = 8
            · have e1 : (nm.toList == [99, 104, 97, 110, 115]) = false := by rw [hn1, hk8]; rfl
              have e2 : (nm.toList == [103, 101, 110, 115]) = true := by rw [hn2, hk8]; rfl
              have HSH : RowKit.Hid (shown c k = false) := Lib.hid (by unfold shown; rw [e3, hk8]; rfl)
              clear hn1 hn2 hk1 hk8
              go_wp2
              go_roundg (9 - (k + 1))
              case measure => rw [HGK.out]; omega
              case rel => exact ⟨k + 1, A, cp, by omega, rfl, by go_num, by rw [HSTEP.out, HSH.out, if_neg Bool.false_ne_true, HLN.out], by rw [HSTEP.out, HSH.out, if_neg Bool.false_ne_true]; exact (HTN.out.draw ((Below.refl _ _).alloc (Nat.le_refl _) _))⟩

            · have e1 : (nm.toList == [99, 104, 97, 110, 115]) = false := by rw [hn1]; simpa using hk1
              have e2 : (nm.toList == [103, 101, 110, 115]) = false := by rw [hn2]; simpa using hk8
              have HSH : RowKit.Hid (shown c k = true) := Lib.hid (by unfold shown; rw [e3]; simp [hk1, hk8])
              clear hn1 hn2 hk1 hk8
              have HX := Lib.hid (Blk.new wr 102 [.string nm, .pointer (some ⟨b, k + 1, none⟩)])
              have HTW := Lib.hid (HTN.out.draw ((Below.refl wr.heap.size wr).alloc (Nat.le_refl _) (.cells [Value.string nm, .pointer (some ⟨b, k + 1, none⟩)].toArray 102)))
              have HBW := Lib.hid HTN.out.bel
              go_upto_region 8 with (fail)
              clear x0 x1 xb xk hbl hFl
              have hW : RowKit.Hid (wr.alloc (.cells [Value.string nm, .pointer (some ⟨b, k + 1, none⟩)].toArray 102) = wr.alloc (.cells #[Value.string nm, .pointer (some ⟨b, k + 1, none⟩)] 102)) := Lib.hid rfl
              rw [hW.out] at HX HTW
              clear hW
              generalize (wr.alloc (.cells #[Value.string nm, .pointer (some ⟨b, k + 1, none⟩)] 102)) = W at *
              generalize wr.heap.size = gb at *
              have s0 := HX.out.cell (i := 0) rfl
              have s1 := HX.out.cell (i := 1) rfl
              have xb := HTW.out.box.cell HFC.out
              have hgl := HX.out.lt
              have hbl := HTW.out.box.lt
              have HNW := Lib.hid (own_blk_ne (HLN.out ▸ HTW.out.out) HX.out (by decide))
              have HNB := Lib.hid (own_blk_ne (HLN.out ▸ HTW.out.out) HTW.out.box (by decide))
              have HO4 := Lib.hid (show W.ownsRow w.heap.size 9 1 (.slice A ln cp) ln (rows l) from HLN.out ▸ HTW.out.out)
              have HTD := Lib.hid ((HT.out.below HTW.out.bel).below (Below.drewN' (Below.refl W.heap.size W) 1))
              have HWS := Lib.hid HTW.out.bel.size
              have d1 : ¬ 9223372036854775807 < nm.size + 1 := by omega
              have d2 : ¬ 9223372036854775807 < nm.size + 1 + z.size := by omega
              go_region_held3 (fun w' => w'.cell? ⟨gb, 0, none⟩ = some (.string nm) ∧ w'.cell? ⟨gb, 1, none⟩ = some (.pointer (some ⟨b, k + 1, none⟩)) ∧ w'.cell? ⟨b, k + 1, none⟩ = some (.int .i64 fv)) (first | go_keep | (simp only [hk1, hk2]; go_keep)) (first
                | (go_at_call 65; refine (HI.out W.drew HTD.out).mono ?_; rintro er w5 ⟨rfl, hb5⟩; have hB5 : Below W.heap.size W w5 := ⟨hb5.os, hb5.tape, hb5.output, hb5.size, hb5.block⟩; have hk1 := fun o => hB5.cell (p := ⟨gb, o, none⟩) hgl; have hk2 := fun o => hB5.cell (p := ⟨b, o, none⟩) hbl; have hO5 := own_below HO4.out hB5)
                | (refine step_app ?_ (.tmp 34) (.tmp 44) 86 9 ?_ w.heap.size (.string ⟨#[]⟩) 1 16 Tryd.underlying86 str_info ?_ ?_ A ln cp (rows l) ?_ (hO5.alloc _) _ 1 1 (rows [nm ++ ⟨#[61]⟩ ++ z]) (by rfl) ?_ ?_ ?_ (rows_one _) (ln + 1) rfl (rows l ++ rows [nm ++ ⟨#[61]⟩ ++ z]) rfl ?_ ?_ ?_ ?_; rfl; rfl; rfl; decide; rfl; simp; rfl; exact (blk_new (cs := rows [nm ++ ⟨#[61]⟩ ++ z]) (by rfl)).rd; (unfold maxLen; omega); omega; (focus (have := hB5.size; have := HWS.out; rw [World.size_alloc]; omega)); intro A6 d6 w6 hown6 hg6 hb6; have hX6 := blk_grown ((HX.out.below hB5 hgl).alloc _) hg6 HNW.out; have hK6 := blk_grown ((HTW.out.box.below hB5 hbl).alloc _) hg6 HNB.out; have r0 := hX6.cell (i := 0) rfl; have r1 := hX6.cell (i := 1) rfl; have r2 := hK6.cell HFC.out))
              have HT6 := Lib.hid (TIn.app (A' := A6) (c' := d6) (x := nm ++ ⟨#[61]⟩ ++ z) (HTW.out.draw hB5) (by rw [HLN.out, rows_append]; exact hown6) (by rw [HLN.out]; exact hg6))
              clear hk1 hk2 hb5 hB5 hO5 hown6 hg6 hb6 hX6 hK6 s0 s1 xb r0 r1 r2
              go_wp2
              go_roundg (9 - (k + 1))
              case measure => rw [HGK.out]; omega
              case rel =>
                refine ⟨k + 1, A6, d6, by omega, rfl, by go_num, ?_, ?_⟩
                · rw [HSTEP.out, if_pos HSH.out, List.length_append, HLN.out]; rfl
                · rw [HSTEP.out, if_pos HSH.out, HW.out]
                  exact HT6.out

      · obtain rfl : k = 9 := by omega
        have hx10 := hT.box.cell (i := 10) rfl
        have HTN : RowKit.Hid (TIn w b F c (fldsTo c 9 ++ (c.start.take 0).map startW) A cp wr) := Lib.hid (by rw [List.take_zero, List.map_nil, List.append_nil]; exact hT)
        have HL9 : RowKit.Hid ((fldsTo c 9).length = (fldsTo c 9 ++ (c.start.take 0).map startW).length) := Lib.hid (by rw [List.take_zero, List.map_nil, List.append_nil])
        have HWO : RowKit.Hid (wordsS c = fldsTo c 9 ++ c.start.map startW) := Lib.hid rfl
        clear HSTEP HL hT hk9 hk
        generalize hln : (fldsTo c 9).length = ln at *
        have HLN := Lib.hid hln
        clear hln
        generalize hl : fldsTo c 9 = l9 at *
        clear hl
        have HX10 : RowKit.Hid (∀ W : World, Blk W b 45 (cfgCells c) → W.cell? ⟨b, 10, none⟩ = some (.slice c.sa c.start.length c.sc)) := Lib.hid (fun W h => h.cell (i := 10) rfl)
        have HRS : RowKit.Hid (∀ W : World, Below w.heap.size w W → Rd W c.sa (ints c.start)) := Lib.hid (fun W h => (HCF.out.below h).1)
        generalize hsn : c.start.length = sn at *
        have HSL := Lib.hid hsn
        clear hsn
        generalize c.sa = sa at *
        go_wp2
        go_loopg [3, 50] sn (fun gg lv i wr => ∃ (j : Nat) (A : Option Addr) (cp : Nat), j ≤ sn ∧ gg = sn - j ∧ i = .int .i64 j ∧ lv = .slice A (l9 ++ (c.start.take j).map startW).length cp ∧ TIn w b F c (l9 ++ (c.start.take j).map startW) A cp wr)
        case atStart => exact ⟨0, A, cp, Nat.zero_le _, rfl, rfl, by rw [← HL9.out], HTN.out⟩
        case round =>
          obtain ⟨j, A', cp', hj, hg2, rfl, rfl, hT⟩ := hrel
          clear HTN HL9 HGK hx10
          have HGK := Lib.hid hg2
          clear hg2
          have hlj : (l9 ++ (c.start.take j).map startW).length ≤ 18 := by
            rw [List.length_append, HLN.out, List.length_map, List.length_take]
            omega
          by_cases hjs : j < sn
          · have q2 : (j : Int) < (sn : Int) := by omega
            have hjl : j < c.start.length := by rw [HSL.out]; exact hjs
            have HTN := Lib.hid hT
            obtain ⟨bb, oo, rfl, hbl, hcs⟩ := (HRS.out _ hT.bel).at_ (by rw [ints_length]; omega)
            have x1 : wr.cell? ⟨bb, oo + j, none⟩ = some (.int .i64 (c.start.getD j 0)) := hcs j _ (ints_at hjl)
            have hmem := HSN.out (c.start.getD j 0) (by rw [List.getD, List.getElem?_eq_getElem hjl]; exact List.getElem_mem _)
            have HSTEP : RowKit.Hid (l9 ++ (c.start.take (j + 1)).map startW = (l9 ++ (c.start.take j).map startW) ++ [startW (c.start.getD j 0)]) := Lib.hid (by
              rw [List.take_succ_eq_append_getElem hjl, List.map_append, List.append_assoc, List.getD, List.getElem?_eq_getElem hjl]; rfl)
            have x10 := HX10.out _ hT.box
            clear hcs hT hjl
            generalize c.start.getD j 0 = x at *
            have HW : RowKit.Hid (startW x = ⟨#[115, 116, 97, 114, 116, 61]⟩ ++ itoaS x) := Lib.hid rfl
            have HI := Lib.hid (fun W h => Itoa_any x ⟨by have := hmem.1; omega, by have := hmem.2; omega⟩ W h)
            have hiz := itoaS_size (n := x) ⟨by have := hmem.1; omega, by have := hmem.2; omega⟩
            clear hmem
            generalize startW x = fw at *
            generalize itoaS x = z at *
            generalize hl : l9 ++ (c.start.take j).map startW = l at *
            clear hl
            generalize hln2 : l.length = ln2 at *
            have HLN2 := Lib.hid hln2
            clear hln2
            have d1 : ¬ 9223372036854775807 < 6 + z.size := by omega
            go_wp2_with (first
              | (go_at_call 65; refine (HI.out _ (HT.out.below HTN.out.bel)).mono ?_; rintro e w5 ⟨rfl, hb5⟩; have HT5 := Lib.hid (HTN.out.draw hb5); clear hb5)
              | (at_builtin; refine wpList_app rfl (.tmp 54) (.tmp 58) 86 9 rfl w.heap.size (.string ⟨#[]⟩) 1 16 Tryd.underlying86 str_info rfl (by decide) A' ln2 cp' (rows l) rfl (own_below (HLN2.out ▸ HT5.out.out) ((Below.refl _ _).alloc (Nat.le_refl _) _)) (some ⟨w5.heap.size, 0, none⟩) 1 1 (rows [⟨#[115, 116, 97, 114, 116, 61]⟩ ++ z]) rfl (by simp) rfl (blk_new (cs := rows [⟨#[115, 116, 97, 114, 116, 61]⟩ ++ z]) rfl).rd (rows_one _) (ln2 + 1) rfl (rows (l ++ [⟨#[115, 116, 97, 114, 116, 61]⟩ ++ z])) (by rw [rows_append]) (by unfold maxLen; omega) (by omega) (by have := HT5.out.bel.size; simp; omega) ?_; intro V3 cv3 w6 hown3 hg3 hb3))
            have HT6 := Lib.hid (TIn.app (A' := V3) (c' := cv3) (x := ⟨#[115, 116, 97, 114, 116, 61]⟩ ++ z) HT5.out (by rw [HLN2.out]; exact hown3) (by rw [HLN2.out]; exact hg3))
            go_roundg (sn - (j + 1))
            case measure => rw [HGK.out]; omega
            case rel =>
              refine ⟨j + 1, V3, cv3, by omega, rfl, by go_num, ?_, ?_⟩
              · rw [HSTEP.out, List.length_append, HLN2.out]; rfl
              · rw [HSTEP.out, HW.out]
                exact HT6.out
          · obtain rfl : j = sn := by omega
            have q2 : ¬ (j : Int) < (j : Int) := by omega
            have HTN := Lib.hid hT
            have HLE : RowKit.Hid ((l9 ++ (c.start.take j).map startW).length = (wordsS c).length) := Lib.hid (by
              rw [show c.start.take j = c.start from List.take_of_length_le (by rw [HSL.out]; exact Nat.le_refl _), ← HWO.out])
            rw [show c.start.take j = c.start from List.take_of_length_le (by rw [HSL.out]; exact Nat.le_refl _), ← HWO.out] at HTN
            have hne : wordsS c ≠ [] := by
              obtain ⟨r, hr⟩ := fldsTo_head c 9
              rw [wordsS, hr]
              simp
            obtain ⟨bb, oo, rfl, hbl, hcell⟩ := strs_cell (own_rd HTN.out.out) hne
            have HJC := Lib.hid (Tryd.strings_Join bb oo cp' (wordsS c) ⟨#[32]⟩ wr hcell hbl (by have := HWF.out.2; omega) (own_le HTN.out.out) (join_size _ (fun x hx => by have := (HWF.out.1 x hx).2; omega) (by have := HWF.out.2; omega)))
            have HTX : RowKit.Hid (shpTB c = ⟨(Lib.join ((wordsS c).map (·.data.toList)) (⟨#[32]⟩ : ByteArray).data.toList).toArray⟩) := Lib.hid HV.out
            rw [← HTX.out, ← HLE.out] at HJC
            generalize hlj2 : (l9 ++ (c.start.take j).map startW).length = nn at *
            clear hcell hT hne hlj2
            go_wp2_with (first | (go_at_call 66; refine HJC.out.mono ?_; rintro er w4 ⟨rfl, hb4⟩))
            go_ret
            exact ⟨rfl, HTN.out.bel.trans (hb4.mono HTN.out.bel.size)⟩

end Go.Proofs.YtknlhkkpheahlaaDoor
