/- aspects: Passed. -/
import Derived.Test.YtmllbailfbjoeaaAsp7
namespace Go.Proofs.Ytmllbailfbjoeaa
open Go.RowKit Go.Sort
attribute [local go_sem ↓] Go.wp_at_zero Go.wp_at_succ

/-- A pair of values. -/
structure Pr where
  (fst snd : Int)
deriving DecidableEq
def Pr.cells (a : Pr) : List Value := [.int .i64 a.fst, .int .i64 a.snd]
def Pr.none : Pr := ⟨0, 0⟩
abbrev prV (a : Pr) : Value := .agg #[.int .i64 a.fst, .int .i64 a.snd]

instance : Cellful Pr where
  cells := Pr.cells
  s := 2
  dflt := Pr.none
  len := fun _ => rfl
  one := fun a u hu => by
    simp only [Pr.cells, List.mem_cons, List.not_mem_nil, or_false] at hu
    rcases hu with rfl | rfl <;> rfl

theorem Pr_info : (Try.prog.info? 33).map (fun i => (i.zero, i.size, i.bytes)) = some (some (prV Pr.none), 2, 16) := by kernel_rfl

/-- Did b pass a? -/
def pairB (l : List Kall) (a b : Kall) : Bool := match takesS l b.value with
  | [] => false
  | t :: _ => decide (a.fin < b.beg) && !goneS l a.value t.fin
def rowP (l S : List Kall) (a : Kall) (k : Nat) : List Pr := ((S.take k).filter (pairB l a)).map fun b => ⟨a.value, b.value⟩
def allP (l S : List Kall) : Nat → List Pr
  | 0 => []
  | i + 1 => allP l S i ++ rowP l S (S.getD i Kall.none) S.length
def passedS (l : List Kall) : List Pr := allP l (sureS l) (sureS l).length

theorem rowP_len (l S : List Kall) (a : Kall) (k : Nat) : (rowP l S a k).length ≤ k := by
  unfold rowP
  rw [List.length_map]
  exact ints_len_filter S _ k
theorem allP_len (l S : List Kall) : ∀ i, (allP l S i).length ≤ i * S.length
  | 0 => by simp [allP]
  | i + 1 => by
    have := allP_len l S i
    have h2 := rowP_len l S (S.getD i Kall.none) S.length
    rw [allP, List.length_append, Nat.succ_mul]
    omega
theorem rowP_yes {l S : List Kall} {a : Kall} {k : Nat} (h : k < S.length) (hp : pairB l a (S.getD k Kall.none) = true) : rowP l S a (k + 1) = rowP l S a k ++ [⟨a.value, (S.getD k Kall.none).value⟩] := by
  unfold rowP
  rw [filter_take_yes (p := pairB l a) (d := Kall.none) h hp, List.map_append]; rfl
theorem rowP_no {l S : List Kall} {a : Kall} {k : Nat} (h : k < S.length) (hp : pairB l a (S.getD k Kall.none) = false) : rowP l S a (k + 1) = rowP l S a k := by
  unfold rowP
  rw [filter_take_no (p := pairB l a) (d := Kall.none) h hp]

theorem own_blk_ne {w : World} {base g : Nat} {e t : TypeId} {s n : Nat} {v : Value} {xs cs : List Value} (h : w.ownsRow base e s v n xs) (hg : Blk w g t cs) (hne : e ≠ t) : some g ≠ v.ownBlock := by
  rcases h.2 with ⟨rfl, _⟩ | ⟨g', cap, cur, rfl, _, hh, _⟩
  · simp [Value.ownBlock]
  · intro he
    have : g = g' := by simpa [Value.ownBlock] using he
    subst this
    unfold Blk at hg
    rw [hg] at hh
    injection hh with hh
    injection hh with _ ht
    exact hne ht.symm

set_option maxHeartbeats 8000000 in
set_option maxRecDepth 100000 in
theorem Passed_any (A : Option Addr) (c : Nat) (ns : List Nte) (w : World) (hl : ns.length ≤ 1024) (hok : ThreadsOk ns) (hR : Rd w A (rows ns)) :
    Calls Try.prog 26 #[.slice A ns.length c] w (RetRows (passedS (callsS ns)) w) := by
  have HC := Lib.hid (calls_any A c ns w (by omega) hok hR)
  have HSU := Lib.hid (fun B d W h1 h2 => sure_any A B c d ns W (by omega) hok h1 h2)
  have HR := Lib.hid hR
  have hcl := calls_len ns
  clear hok hR
  generalize ns.length = nn at *
  generalize callsS ns = l at *
  have hsl := sure_len l
  have HPS : RowKit.Hid (passedS l = allP l (sureS l) (sureS l).length) := Lib.hid rfl
  have HT := Lib.hid (fun A1 c1 v W h => takes_any A1 c1 l v W (by omega) h)
  have HGN := Lib.hid (fun A1 c1 v u W h => gone_any A1 c1 l v u W (by omega) h)
  generalize hcn : l.length = cn at *
  have HCN := Lib.hid hcn
  clear hcn
  go_enter Try.func26, Try.ntmps26
  go_wp2_with fail
  refine HC.out.mono ?_
  rintro e w0 ⟨L, cl, rfl, hrd0, _, _, hb0⟩
  rw [HCN.out]
  have HRD0 := Lib.hid hrd0
  have HB0 := Lib.hid hb0
  clear hrd0 hb0
  go_wp2_with fail
  refine (HSU.out L cl _ (HR.out.below HB0.out) HRD0.out).mono ?_
  generalize sureS l = S at *
  rintro e w1 ⟨SA, cs1, rfl, hrdS, _, _, hb1⟩
  have HRS := Lib.hid hrdS
  have HRL := Lib.hid (HRD0.out.below hb1)
  have HB1 := Lib.hid (HB0.out.trans (hb1.mono HB0.out.size))
  clear hrdS hb1 HSU
  have HAL := Lib.hid (allP_len l S)
  generalize hn : S.length = n at *
  have HN := Lib.hid hn
  clear hn
  go_wp2
  go_loopg [5, 18] n (fun g v i wr => ∃ (k : Nat) (V : Option Addr) (cv : Nat), k ≤ n ∧ g = n - k ∧ i = .int .i64 k ∧ v = .slice V (allP l S k).length cv ∧ wr.ownsRow w1.heap.size 33 2 (.slice V (allP l S k).length cv) (allP l S k).length (rows (allP l S k)) ∧ Below w1.heap.size w1 wr)
  case atStart => exact ⟨0, none, 0, Nat.zero_le _, rfl, rfl, rfl, own_nil _ _ _ _, Below.refl _ _⟩
  case round =>
    obtain ⟨i, V, cv, hi, hg, rfl, rfl, hown, hb⟩ := hrel
    have HG := Lib.hid hg
    have HB := Lib.hid hb
    have HOWN := Lib.hid hown
    have hal := HAL.out i
    have hal2 : i * n ≤ 1048576 := by
      have h1 : i * n ≤ n * n := Nat.mul_le_mul_right _ hi
      have h2 : n * n ≤ 1024 * 1024 := Nat.mul_le_mul (by omega) (by omega)
      omega
    clear hg hb hown
    by_cases hlt : i < n
    · have hil : i < S.length := by rw [HN.out]; exact hlt
      obtain ⟨b, o, rfl, hbl, hc⟩ := HRS.out.at_ (by rw [rows_length]; exact Nat.mul_pos (by omega) (by decide))
      have hcr : ∀ j v, (rows S)[j]? = some v → wr.cell? ⟨b, o + j, none⟩ = some v := fun j v hj => by
        rw [HB.out.cell (p := ⟨b, o + j, none⟩) hbl]; exact hc j v hj
      generalize hx : S.getD i Kall.none = x
      obtain ⟨c0, c1, c2, c3, c4, c5⟩ := kall_cells hcr hil hx
      have HSTEP := Lib.hid (show allP l S (i + 1) = allP l S i ++ rowP l S x n by rw [allP, hx, HN.out])
      have HCC := Lib.hid hc
      clear hc hcr hx hil
      generalize allP l S i = pl at *
      have q1 : (0 : Int) ≤ (i : Int) := by omega
      have q2 : (i : Int) < (n : Int) := by omega
      have HBX : RowKit.Hid (Blk (wr.alloc (kbox x)) wr.heap.size 82 x.cells) := Lib.hid (Blk.new wr 82 x.cells)
      have HB2 := Lib.hid (HB.out.alloc HB.out.size (kbox x))
      have HO2 := Lib.hid (HOWN.out.alloc (kbox x))
      have hgo : wr.heap.size < (wr.alloc (kbox x)).heap.size := by simp
      have hgs : w1.heap.size ≤ wr.heap.size := HB.out.size
      go_wp2
      clear c0 c1 c2 c3 c4 c5 HB HOWN
      generalize wr.alloc (kbox x) = wo at *
      generalize wr.heap.size = gb at *
      go_loopg [5, 24] n (fun g v j wi => ∃ (k : Nat) (V : Option Addr) (cv : Nat), k ≤ n ∧ g = n - k ∧ j = .int .i64 k ∧ v = .slice V (pl ++ rowP l S x k).length cv ∧ wi.ownsRow w1.heap.size 33 2 (.slice V (pl ++ rowP l S x k).length cv) (pl ++ rowP l S x k).length (rows (pl ++ rowP l S x k)) ∧ Below w1.heap.size w1 wi ∧ Blk wi gb 82 x.cells)
      case atStart =>
        refine ⟨0, V, cv, Nat.zero_le _, rfl, rfl, ?_, ?_, HB2.out, HBX.out⟩
        · simp [rowP]
        · simpa [rowP] using HO2.out
      case round =>
        obtain ⟨k, V, cv, hk, hg, rfl, rfl, hown, hb, hbk⟩ := hrel
        have HGI := Lib.hid hg
        have HB := Lib.hid hb
        have HOWN := Lib.hid hown
        have HBK := Lib.hid hbk
        have hrl := rowP_len l S x k
        clear hg hb hown hbk
        by_cases hkn : k < n
        · have hkl : k < S.length := by rw [HN.out]; exact hkn
          have hcr : ∀ j v, (rows S)[j]? = some v → wr.cell? ⟨b, o + j, none⟩ = some v := fun j v hj => by
            rw [HB.out.cell (p := ⟨b, o + j, none⟩) hbl]; exact HCC.out j v hj
          generalize hy : S.getD k Kall.none = y
          obtain ⟨c0, c1, c2, c3, c4, c5⟩ := kall_cells hcr hkl hy
          have HYES := Lib.hid (fun h => rowP_yes (l := l) (a := x) hkl h)
          have HNOO := Lib.hid (fun h => rowP_no (l := l) (a := x) hkl h)
          rw [hy] at HYES HNOO
          have hrn : (pl ++ rowP l S x k).length ≤ 2097152 := by rw [List.length_append]; omega
          clear hcr hy hkl
          have q3 : (0 : Int) ≤ (k : Int) := by omega
          have q4 : (k : Int) < (n : Int) := by omega
          have HNEXT : RowKit.Hid (∀ (fn : Nat) (w3 : World), (pl ++ rowP l S x k).length = fn → pairB l x y = false → w3.ownsRow w1.heap.size 33 2 (.slice V fn cv) fn (rows (pl ++ rowP l S x k)) → Below w1.heap.size w1 w3 → Blk w3 gb 82 x.cells →
              ∃ (k' : Nat) (V' : Option Addr) (cv' : Nat), k' ≤ n ∧ n - (k + 1) = n - k' ∧ Value.int .i64 ((k : Int) + 1) = .int .i64 k' ∧ Value.slice V fn cv = .slice V' (pl ++ rowP l S x k').length cv' ∧ w3.ownsRow w1.heap.size 33 2 (.slice V' (pl ++ rowP l S x k').length cv') (pl ++ rowP l S x k').length (rows (pl ++ rowP l S x k')) ∧ Below w1.heap.size w1 w3 ∧ Blk w3 gb 82 x.cells) := Lib.hid (by
            intro fn w3 hfn hf ho hb hk3
            refine ⟨k + 1, V, cv, by omega, rfl, by go_num, ?_, ?_, hb, hk3⟩
            · rw [HNOO.out hf, hfn]
            · rw [HNOO.out hf, hfn]; exact ho)
          have HNE2 := Lib.hid (fun h => show pl ++ rowP l S x (k + 1) = (pl ++ rowP l S x k) ++ [⟨x.value, y.value⟩] by rw [HYES.out h, List.append_assoc])
          generalize hrr : pl ++ rowP l S x k = rl at *
          generalize hfn : rl.length = fn at *
          have HFN := Lib.hid hfn
          have HPB : RowKit.Hid (pairB l x y = match takesS l y.value with | [] => false | t :: _ => decide (x.fin < y.beg) && !goneS l x.value t.fin) := Lib.hid rfl
          clear hfn hrr
          go_wp2_with fail
          refine (HT.out L cl y.value _ ((HRL.out.below HB.out).alloc _)).mono ?_
          rintro e w2 ⟨T, ct, rfl, hrT, _, hTn, hb2⟩
          have hby : Blk w2 wr.heap.size 82 y.cells := (Blk.new wr 82 y.cells).below hb2 (by simp)
          have hbxx : Blk w2 gb 82 x.cells := (HBK.out.alloc _).below hb2 (by have := HBK.out.lt; simp; omega)
          have HB2' := Lib.hid ((HB.out.alloc HB.out.size (kbox y)).trans (hb2.mono (by have := HB.out.size; simp; omega)))
          have HO2' := Lib.hid (own_below (HOWN.out.alloc (kbox y)) hb2)
          have x1 : w2.cell? ⟨gb, 1, none⟩ = some (.int .i64 x.fin) := hbxx.cell rfl
          have x4 : w2.cell? ⟨gb, 4, none⟩ = some (.int .i64 x.value) := hbxx.cell rfl
          have y0 : w2.cell? ⟨wr.heap.size, 0, none⟩ = some (.int .i64 y.beg) := hby.cell rfl
          have y4 : w2.cell? ⟨wr.heap.size, 4, none⟩ = some (.int .i64 y.value) := hby.cell rfl
          have HBXX := Lib.hid hbxx
          have HBYY := Lib.hid hby
          clear hb2 c0 c1 c2 c3 c4 c5 hbxx hby HB HOWN HBK
          generalize wr.heap.size = gy at *
          by_cases hfb : x.fin < y.beg
          · have t1 : decide (x.fin < y.beg) = true := by simpa using hfb
            cases htk : takesS l y.value with
            | nil =>
              have HF := Lib.hid (show pairB l x y = false by rw [HPB.out, htk])
              clear htk hfb
              simp only [List.length_nil]
              go_wp2
              go_quiet (fail)
              go_wp2
              go_roundg (n - (k + 1))
              case measure => rw [HGI.out]; omega
              case rel => exact HNEXT.out fn _ rfl HF.out HO2'.out (Below.drewN' HB2'.out nq) HBXX.out
            | cons t r =>
              rw [htk] at hrT
              have HF := Lib.hid (show pairB l x y = !goneS l x.value t.fin by rw [HPB.out, htk, t1]; simp)
              obtain ⟨bt, ot, rfl, hbt, hct⟩ := hrT.at_ (by rw [rows_length]; exact Nat.mul_pos (by simp) (by decide))
              have f1 := (kall_cells hct (k := 0) (by simp) (x := t) rfl).2.1
              simp only [Nat.zero_mul, Nat.add_zero] at f1
              generalize htm : (t :: r).length = tm
              have htm1 : (0 : Int) < (tm : Int) := by rw [← htm]; simp
              have htm2 : decide (0 < tm) = true := by simp; omega
              have htm3 : 0 < tm := by omega
              have HGG := Lib.hid (fun W h => HGN.out L cl x.value t.fin W h)
              have hgl : gb < w2.heap.size := HBXX.out.lt
              have hyl : gy < w2.heap.size := HBYY.out.lt
              have HRL2 := Lib.hid (show Rd w2 L (rows l) from HRL.out.below HB2'.out)
              clear htk hfb hrT hct htm
              cases hgn : goneS l x.value t.fin
              all_goals
                rw [hgn] at HGG HF
                go_wp2
                go_region_held3 (fun w' => w'.cell? ⟨gb, 1, none⟩ = some (.int .i64 x.fin) ∧ w'.cell? ⟨gb, 4, none⟩ = some (.int .i64 x.value) ∧ w'.cell? ⟨gy, 0, none⟩ = some (.int .i64 y.beg) ∧ w'.cell? ⟨bt, ot + 1, none⟩ = some (.int .i64 t.fin)) (first | go_keep | (simp only [hk1, hk2, hk3]; go_keep))
                  (first | (go_at_call 72; refine (HGG.out _ (rd_drew HRL2.out)).mono ?_; rintro e w4 ⟨rfl, hb4⟩; have hk1 := fun o => hb4.cell (p := ⟨gb, o, none⟩) hgl; have hk2 := fun o => hb4.cell (p := ⟨gy, o, none⟩) hyl; have hk3 := fun o => hb4.cell (p := ⟨bt, o, none⟩) hbt))
                have HB4 := Lib.hid (HB2'.out.trans ((show Below w2.heap.size w2 w4 from ⟨hb4.os, hb4.tape, hb4.output, hb4.size, hb4.block⟩).mono HB2'.out.size))
                have HO4 := Lib.hid (own_below HO2'.out (show Below w2.heap.size w2 w4 from ⟨hb4.os, hb4.tape, hb4.output, hb4.size, hb4.block⟩))
                have HX4 := Lib.hid (HBXX.out.below (show Below w2.heap.size w2 w4 from ⟨hb4.os, hb4.tape, hb4.output, hb4.size, hb4.block⟩) hgl)
                have x4' : w4.cell? ⟨gb, 4, none⟩ = some (.int .i64 x.value) := HX4.out.cell rfl
                have y4' : w4.cell? ⟨gy, 4, none⟩ = some (.int .i64 y.value) := by rw [hk2]; exact y4
                clear hb4 hk1 hk2 hk3
                first
                  | (go_wp2_with (at_builtin; refine wpList_app rfl (.tmp 53) (.tmp 59) 30 33 rfl w1.heap.size (prV Pr.none) 2 16 Try.underlying30 Pr_info rfl (by decide) V fn cv (rows rl) rfl (HO4.out.alloc _) (some ⟨w4.heap.size, 0, none⟩) 1 1 (rows [(⟨x.value, y.value⟩ : Pr)]) rfl (by simp) rfl (blk_new rfl).rd (rows_one _) (fn + 1) rfl (rows (rl ++ [(⟨x.value, y.value⟩ : Pr)])) (rows_append _ _).symm (by unfold maxLen; omega) (by omega) (Nat.le_trans HB4.out.size (by simp)) ?_; intro V3 cv3 w6 hown3 hg3 hb6)
                     go_roundg (n - (k + 1))
                     case measure => rw [HGI.out]; omega
                     case rel =>
                       have e := HNE2.out HF.out
                       refine ⟨k + 1, V3, cv3, by omega, rfl, by go_num, ?_, ?_, (HB4.out.alloc HB4.out.size _).trans hb6, ?_⟩
                       · rw [e]; simp [HFN.out]
                       · rw [e]
                         simp only [List.length_append, List.length_cons, List.length_nil, HFN.out]
                         exact hown3
                       · exact blk_grown (HX4.out.alloc _) hg3 (own_blk_ne (HO4.out.alloc (kbox x)) (HX4.out.alloc (kbox x)) (by decide)))
                  | (go_wp2
                     go_roundg (n - (k + 1))
                     case measure => rw [HGI.out]; omega
                     case rel => exact HNEXT.out fn _ rfl HF.out HO4.out HB4.out HX4.out)
          · have t1 : decide (x.fin < y.beg) = false := by simpa using hfb
            have HF := Lib.hid (show pairB l x y = false by rw [HPB.out, t1]; split <;> simp)
            clear hfb
            generalize (takesS l y.value).length = tn
            go_wp2
            go_quiet (fail)
            go_wp2
            go_roundg (n - (k + 1))
            case measure => rw [HGI.out]; omega
            case rel => exact HNEXT.out fn _ rfl HF.out HO2'.out (Below.drewN' HB2'.out nq) HBXX.out
        · obtain rfl : k = n := by omega
          go_wp2
          go_roundg (k - (i + 1))
          case measure => rw [HG.out]; omega
          case rel =>
            refine ⟨i + 1, V, cv, by omega, rfl, by go_num, ?_, ?_, HB.out⟩
            · rw [HSTEP.out]
            · rw [HSTEP.out]; exact HOWN.out
    · obtain rfl : i = n := by omega
      generalize hfn : (allP l S i).length = fn at *
      have hle := own_le HOWN.out
      have HNO := Lib.hid (fun h => (own_none HOWN.out h).2.1)
      go_wp2
      go_ret
      refine ⟨V, cv, ?_, ?_, ?_, HNO.out, HB1.out.trans (HB.out.mono HB1.out.size)⟩
      · rw [HPS.out, hfn]; rfl
      · rw [HPS.out]; exact own_rd HOWN.out
      · rw [HPS.out, hfn]; exact hle

end Go.Proofs.Ytmllbailfbjoeaa
