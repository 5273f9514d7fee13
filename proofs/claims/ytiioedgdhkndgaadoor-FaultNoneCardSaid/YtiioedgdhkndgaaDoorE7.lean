/- fault.Path over faults around a number, walked. -/
import Derived.Test.YtiioedgdhkndgaaDoorE6
import Derived.Test.YtiioedgdhkndgaaDoorRef04b
import Derived.Test.YtiioedgdhkndgaaDoorStrs
import Derived.Lib.Join
namespace Go.Proofs.YtiioedgdhkndgaaDoor
open Go.RowKit Go.Sort Go.Extern.Stop Go.Stop Go.Extern
attribute [local go_sem ↓] Go.wp_at_zero Go.wp_at_succ

def fstr (a : ByteArray × Int) : ByteArray := faultS a.1 a.2

theorem join_sep (sep : ByteArray) : ∀ (l : List (ByteArray × Int)), (⟨(Lib.join ((l.map fstr).map (·.data.toList)) sep.data.toList).toArray⟩ : ByteArray) = sepS sep l
  | [] => rfl
  | [x] => by simp [Lib.join_one, sepS, fstr]
  | x :: y :: r => by
    have ih := join_sep sep (y :: r)
    rw [sepS, ← ih]
    simp only [List.map_cons, Lib.join_cons]
    apply ByteArray.ext
    simp [Lib.joinTail, fstr]

set_option maxHeartbeats 16000000 in
set_option maxRecDepth 100000 in
theorem Path_any (B : Nat) (v : Value) (l : List (ByteArray × Int)) (e : Int) (w : World) (h : Chain B w v l e) (he : EtT w) (ht : TabT w) (hl : l.length < 64) (hP : ∀ a ∈ l, In64 a.2) (hS : ∀ a ∈ l, a.1.size ≤ 4611686018427387904) (hsz : (sepS ⟨#[47]⟩ l).size ≤ 140737488355328) :
    Calls Tryd.prog 23 #[v] w fun er w' => er = .returned (.string (sepS ⟨#[47]⟩ l)) ∧ Below w.heap.size w w' := by
  have HC := Lib.hid h
  have HE := Lib.hid he
  have HT := Lib.hid ht
  have HP := Lib.hid hP
  have HSS := Lib.hid hS
  have HSZ := Lib.hid hsz
  generalize hn : l.length = n at *
  have HN := Lib.hid hn
  clear h he hn ht hP hS hsz
  go_enter Tryd.func23, Tryd.ntmps23
  go_wp2
  go_loopg [0, 3, 5] (n + 1) (fun g x ov i wr => ∃ (k : Nat) (r : List (ByteArray × Int)) (y : Value) (V : Option Addr) (cv : Nat), g = r.length + 1 ∧ k + r.length = n ∧ r = l.drop k ∧ x = y ∧ i = .int .i64 k ∧ ov = .slice V k cv ∧ wr.ownsRow w.heap.size 9 1 (.slice V k cv) k (rows ((l.take k).map fstr)) ∧ Chain B w y r e ∧ Below w.heap.size w wr)
  case atStart => exact ⟨0, l, v, none, 0, by rw [HN.out], by rw [HN.out]; omega, rfl, rfl, rfl, rfl, own_nil _ _ _ _, HC.out, Below.refl _ _⟩
  case round =>
    obtain ⟨k, r, y, V, cv, hg, hkr, hrd, hy, rfl, rfl, hown, hcw, hb⟩ := hrel
    have HG := Lib.hid hg
    have HB := Lib.hid hb
    have HOWN := Lib.hid hown
    have HRD := Lib.hid hrd
    have q0 : (k : Int) < 64 := by omega
    have het := HE.out.below hb
    have hbw := (Below.refl wr.heap.size wr).alloc (Nat.le_refl _) (.cells #[.pointer none] 33)
    have hb1 := hb.alloc hb.size (.cells #[.pointer none] 33)
    have HB1 := Lib.hid hb1
    clear hg hb hb1 hown hrd
    cases r with
    | nil =>
      rw [show y = errnoV e from hcw] at hy
      subst hy
      have HA := Lib.hid (AsF_miss e ⟨wr.heap.size, 0, none⟩ _ (het.below hbw))
      have hkn : k = n := by simpa using hkr
      subst hkn
      have hown := HOWN.out
      rw [List.take_of_length_le (by rw [HN.out]; omega)] at hown
      have HO := Lib.hid (hown.alloc (.cells #[.pointer none] 33))
      clear hcw het hbw hkr HC HE hown HOWN
      go_wp2_with fail
      refine HA.out.mono ?_
      rintro er w3 ⟨rfl, hb3⟩
      have HX := Lib.hid (HB1.out.trans (hb3.mono HB1.out.size))
      have HO3 := Lib.hid (own_below HO.out hb3)
      clear hb3 HA HO
      by_cases hl0 : l = []
      · have hk0 : k = 0 := by rw [← HN.out, hl0]; rfl
        subst hk0
        have HJ := Lib.hid (show sepS ⟨#[47]⟩ l = ⟨#[]⟩ by rw [hl0]; rfl)
        go_wp2_with (first | (go_at_call 70; refine (Tryd.strings_Join_none _ _ _ _).mono ?_; rintro er w4 ⟨rfl, rfl⟩))
        go_ret
        exact ⟨by rw [HJ.out]; rfl, HX.out⟩
      · have HNE := Lib.hid hl0
        obtain ⟨bb, oo, rfl, hbl, hcell⟩ := strs_cell (own_rd HO3.out) (by simpa using hl0)
        have HCE := Lib.hid hcell
        have HCAP := Lib.hid (own_le HO3.out)
        have HJ := Lib.hid (join_sep ⟨#[47]⟩ l)
        have HML := Lib.hid (show (l.map fstr).length = k by rw [List.length_map, HN.out])
        have HJC := Lib.hid (Tryd.strings_Join bb oo cv (l.map fstr) ⟨#[47]⟩ w3 hcell hbl (by rw [List.length_map, HN.out]; omega) (by rw [HML.out]; exact HCAP.out) (by
          have e1 := HJ.out
          have e2 := congrArg ByteArray.size e1
          have e3 : (⟨(Lib.join ((l.map fstr).map (·.data.toList)) (⟨#[47]⟩ : ByteArray).data.toList).toArray⟩ : ByteArray).size = (Lib.join ((l.map fstr).map (·.data.toList)) (⟨#[47]⟩ : ByteArray).data.toList).length := by simp [ByteArray.size]
          rw [← e3, e2]; exact HSZ.out))
        rw [HJ.out, HML.out] at HJC
        clear hl0 hcell
        go_wp2_with (first | (go_at_call 70; refine HJC.out.mono ?_; rintro er w4 ⟨rfl, hb4⟩))
        go_ret
        exact ⟨rfl, HX.out.trans (hb4.mono HX.out.size)⟩
    | cons a r =>
      obtain ⟨s, p⟩ := a
      obtain ⟨g, v', hv, hBg, hbk, hc⟩ := hcw
      have hgw := hbk.lt
      have hbkr := hbk.below HB.out hgw
      rw [hv] at hy
      subst hy hv
      have HA := Lib.hid (AsF_hit g ⟨wr.heap.size, 0, none⟩ (.pointer none) _ (het.below hbw) (by simp) (by simp))
      have HK := Lib.hid hbkr
      have HC2 := Lib.hid hc
      have HKR := Lib.hid hkr
      have q1 : (k : Int) + 1 ≤ 64 := by simp at hkr; omega
      have hlen : k < l.length := by rw [HN.out]; simp at hkr; omega
      have HEL := Lib.hid (show l[k]? = some (s, p) ∧ r = l.drop (k + 1) by
        have := HRD.out
        rw [List.drop_eq_getElem_cons hlen] at this
        injection this with h1 h2
        exact ⟨by rw [List.getElem?_eq_getElem hlen, ← h1], h2⟩)
      have hmem : (s, p) ∈ l := List.mem_of_getElem? HEL.out.1
      have hin : In64 p := HP.out _ hmem
      have hss : s.size ≤ 4611686018427387904 := HSS.out _ hmem
      have hiz := itoaS_size hin
      have HF : RowKit.Hid (fstr (s, p) = s ++ ⟨#[32]⟩ ++ itoaS p) := Lib.hid rfl
      have HI := Lib.hid (fun W h => Itoa_any p hin W h)
      generalize itoaS p = z at *
      clear hc het hbk hbkr hbw HC hkr hmem hin
      go_wp2_with fail
      refine HA.out.mono ?_
      rintro er w3 ⟨rfl, W1, hb3, rfl⟩
      obtain ⟨h1, h2⟩ := as_step hb3 (.pointer (some ⟨g, 0, none⟩))
      have H1 := Lib.hid h1
      have HX := Lib.hid h2
      have x0 := h2.cell (i := 0) rfl
      have hK := HK.out.below h1 HK.out.lt
      have HK4 := Lib.hid hK
      have y0 := hK.cell (i := 0) rfl
      have y1 := hK.cell (i := 1) rfl
      have hgl := hK.lt
      have hxl := h2.lt
      have HO4 := Lib.hid (own_below HOWN.out h1)
      have HNW := Lib.hid (own_new HOWN.out (Nat.le_refl _))
      have HB4 := Lib.hid (HB.out.trans (h1.mono HB.out.size))
      have HWS := HB.out.size
      clear hb3 h1 h2 HA hK H1 HK HOWN
      generalize W1.setCell ⟨wr.heap.size, 0, none⟩ (.pointer (some ⟨g, 0, none⟩)) = w4 at *
      generalize hgb : wr.heap.size = gb at *
      clear hgb
      have HT4 := Lib.hid ((HT.out.below HB4.out).below (Below.drewN' (Below.refl _ _) 1))
      have d1 : ¬ 9223372036854775807 < s.size + 1 := by omega
      have d2 : ¬ 9223372036854775807 < s.size + 1 + z.size := by omega
      go_upto_region 6 with (fail)
      go_region_held3 (fun w' => w'.cell? ⟨gb, 0, none⟩ = some (.pointer (some ⟨g, 0, none⟩)) ∧ w'.cell? ⟨g, 0, none⟩ = some (.string s) ∧ w'.cell? ⟨g, 1, none⟩ = some (.int .i64 p)) (first | go_keep | (simp only [hk1, hk2]; go_keep)) (first
        | (go_at_call 69; refine (HI.out w4.drew HT4.out).mono ?_; rintro er w5 ⟨rfl, hb5⟩; have hB5 : Below w4.heap.size w4 w5 := ⟨hb5.os, hb5.tape, hb5.output, hb5.size, hb5.block⟩; have hk1 := fun o => hB5.cell (p := ⟨gb, o, none⟩) hxl; have hk2 := fun o => hB5.cell (p := ⟨g, o, none⟩) hgl; have hO5 := own_below HO4.out hB5)
        | (refine step_app ?_ (.tmp 11) (.tmp 23) 111 9 ?_ w.heap.size (.string ⟨#[]⟩) 1 16 Tryd.underlying111 str_info ?_ ?_ V k cv (rows ((l.take k).map fstr)) ?_ (hO5.alloc _) _ 1 1 (rows [s ++ ⟨#[32]⟩ ++ z]) (by rfl) ?_ ?_ ?_ (rows_one _) (k + 1) rfl (rows ((l.take k).map fstr) ++ rows [s ++ ⟨#[32]⟩ ++ z]) rfl ?_ ?_ ?_ ?_; rfl; rfl; rfl; decide; rfl; simp; rfl; exact (blk_new (cs := rows [s ++ ⟨#[32]⟩ ++ z]) (by rfl)).rd; (unfold maxLen; omega); omega; (focus (have := hB5.size; have := HB4.out.size; rw [World.size_alloc]; omega)); intro A6 d6 w6 hown6 hg6 hb6; have hX6 := blk_grown ((HX.out.below hB5 hxl).alloc _) hg6 HNW.out; have hK6 := (HK4.out.below hB5 hgl).alloc (.cells #[.string (s ++ ⟨#[32]⟩ ++ z)] 9) |>.below hb6 hgw; have s0 := hX6.cell (i := 0) rfl; have s1 := hK6.cell (i := 0) rfl; have s2 := hK6.cell (i := 1) rfl))
      have z2 := hK6.cell (i := 2) rfl
      have HO6 := Lib.hid hown6
      have HB6 := Lib.hid (((HB4.out.trans (hB5.mono HB4.out.size)).alloc (by have := hB5.size; have := HB4.out.size; omega) (.cells #[.string (s ++ ⟨#[32]⟩ ++ z)] 9)).trans hb6)
      clear hk1 hk2 hb5 hB5 hO5 hown6 hg6 hb6 hX6 hK6 x0 y0 y1
      go_wp2
      go_roundg (r.length + 1)
      case measure => rw [HG.out]; simp
      case rel =>
        have hk := HKR.out
        simp at hk
        refine ⟨k + 1, r, v', A6, d6, rfl, by omega, HEL.out.2, rfl, by go_num, rfl, ?_, HC2.out, HB6.out⟩
        rw [List.take_add_one, HEL.out.1]
        simp only [Option.toList, List.map_append, List.map_cons, List.map_nil, rows_append, HF.out]
        exact HO6.out

end Go.Proofs.YtiioedgdhkndgaaDoor
