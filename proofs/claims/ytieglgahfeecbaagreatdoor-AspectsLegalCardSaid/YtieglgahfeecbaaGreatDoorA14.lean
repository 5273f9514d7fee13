/- What the document says of a history is what the program says of it: in plain lists. -/
import Derived.Test.YtieglgahfeecbaaGreatDoorA13
namespace Go.Proofs.YtieglgahfeecbaaGreatDoor
open Go.RowKit Go.Sort
attribute [local go_sem ↓] Go.wp_at_zero Go.wp_at_succ

/-- A pair of values. -/
structure Pr where
  (fst snd : Int)
deriving DecidableEq
def Pr.cells (a : Pr) : List Value := [.int .i64 a.fst, .int .i64 a.snd]
def Pr.none : Pr := ⟨0, 0⟩
abbrev prV (a : Pr) : Value := .agg #[.int .i64 a.fst, .int .i64 a.snd]

instance : Cellful Pr where
  cells := Pr.cells
  s := 2
  dflt := Pr.none
  len := fun _ => rfl
  one := fun a u hu => by
    simp only [Pr.cells, List.mem_cons, List.not_mem_nil, or_false] at hu
    rcases hu with rfl | rfl <;> rfl

theorem Pr_info : (Tryz.prog.info? 75).map (fun i => (i.zero, i.size, i.bytes)) = some (some (prV Pr.none), 2, 16) := by kernel_rfl

/-- Did b pass a? -/
def pairB (l : List Kall) (a b : Kall) : Bool := match takesS l b.value with
  | [] => false
  | t :: _ => decide (a.fin < b.beg) && !goneS l a.value t.fin
def rowP (l S : List Kall) (a : Kall) (k : Nat) : List Pr := ((S.take k).filter (pairB l a)).map fun b => ⟨a.value, b.value⟩
def allP (l S : List Kall) : Nat → List Pr
  | 0 => []
  | i + 1 => allP l S i ++ rowP l S (S.getD i Kall.none) S.length
def passedS (l : List Kall) : List Pr := allP l (sureS l) (sureS l).length

theorem rowP_len (l S : List Kall) (a : Kall) (k : Nat) : (rowP l S a k).length ≤ k := by
  unfold rowP
  rw [List.length_map]
  exact ints_len_filter S _ k
theorem allP_len (l S : List Kall) : ∀ i, (allP l S i).length ≤ i * S.length
  | 0 => by simp [allP]
  | i + 1 => by
    have := allP_len l S i
    have h2 := rowP_len l S (S.getD i Kall.none) S.length
    rw [allP, List.length_append, Nat.succ_mul]
    omega
theorem rowP_yes {l S : List Kall} {a : Kall} {k : Nat} (h : k < S.length) (hp : pairB l a (S.getD k Kall.none) = true) : rowP l S a (k + 1) = rowP l S a k ++ [⟨a.value, (S.getD k Kall.none).value⟩] := by
  unfold rowP
  rw [filter_take_yes (p := pairB l a) (d := Kall.none) h hp, List.map_append]; rfl
theorem rowP_no {l S : List Kall} {a : Kall} {k : Nat} (h : k < S.length) (hp : pairB l a (S.getD k Kall.none) = false) : rowP l S a (k + 1) = rowP l S a k := by
  unfold rowP
  rw [filter_take_no (p := pairB l a) (d := Kall.none) h hp]

theorem own_blk_ne {w : World} {base g : Nat} {e t : TypeId} {s n : Nat} {v : Value} {xs cs : List Value} (h : w.ownsRow base e s v n xs) (hg : Blk w g t cs) (hne : e ≠ t) : some g ≠ v.ownBlock := by
  rcases h.2 with ⟨rfl, _⟩ | ⟨g', cap, cur, rfl, _, hh, _⟩
  · simp [Value.ownBlock]
  · intro he
    have : g = g' := by simpa [Value.ownBlock] using he
    subst this
    unfold Blk at hg
    rw [hg] at hh
    injection hh with hh
    injection hh with _ ht
    exact hne ht.symm

set_option maxHeartbeats 8000000 in
set_option maxRecDepth 100000 in
theorem Passed_any (A : Option Addr) (c : Nat) (ns : List Nte) (w : World) (hl : ns.length ≤ 1024) (hok : ThreadsOk ns) (hR : Rd w A (rows ns)) :
    Calls Tryz.prog 26 #[.slice A ns.length c] w (RetRows (passedS (callsS ns)) w) := by
  have HC := Lib.hid (calls_any A c ns w (by omega) hok hR)
  have HSU := Lib.hid (fun B d W h1 h2 => sure_any A B c d ns W (by omega) hok h1 h2)
  have HR := Lib.hid hR
  have hcl := calls_len ns
  clear hok hR
  generalize ns.length = nn at *
  generalize callsS ns = l at *
  have hsl := sure_len l
  have HPS : RowKit.Hid (passedS l = allP l (sureS l) (sureS l).length) := Lib.hid rfl
  have HT := Lib.hid (fun A1 c1 v W h => takes_any A1 c1 l v W (by omega) h)
  have HGN := Lib.hid (fun A1 c1 v u W h => gone_any A1 c1 l v u W (by omega) h)
  generalize hcn : l.length = cn at *
  have HCN := Lib.hid hcn
  clear hcn
  go_enter Tryz.func26, Tryz.ntmps26
  go_wp2_with fail
  refine HC.out.mono ?_
  rintro e w0 ⟨L, cl, rfl, hrd0, _, _, hb0⟩
  rw [HCN.out]
  have HRD0 := Lib.hid hrd0
  have HB0 := Lib.hid hb0
  clear hrd0 hb0
  go_wp2_with fail
  refine (HSU.out L cl _ (HR.out.below HB0.out) HRD0.out).mono ?_
  generalize sureS l = S at *
  rintro e w1 ⟨SA, cs1, rfl, hrdS, _, _, hb1⟩
  have HRS := Lib.hid hrdS
  have HRL := Lib.hid (HRD0.out.below hb1)
  have HB1 := Lib.hid (HB0.out.trans (hb1.mono HB0.out.size))
  clear hrdS hb1 HSU
  have HAL := Lib.hid (allP_len l S)
  generalize hn : S.length = n at *
  have HN := Lib.hid hn
  clear hn
  go_wp2
  go_loopg [5, 18] n (fun g v i wr => ∃ (k : Nat) (V : Option Addr) (cv : Nat), k ≤ n ∧ g = n - k ∧ i = .int .i64 k ∧ v = .slice V (allP l S k).length cv ∧ wr.ownsRow w1.heap.size 75 2 (.slice V (allP l S k).length cv) (allP l S k).length (rows (allP l S k)) ∧ Below w1.heap.size w1 wr)
  case atStart => exact ⟨0, none, 0, Nat.zero_le _, rfl, rfl, rfl, own_nil _ _ _ _, Below.refl _ _⟩
  case round =>
    obtain ⟨i, V, cv, hi, hg, rfl, rfl, hown, hb⟩ := hrel
    have HG := Lib.hid hg
    have HB := Lib.hid hb
    have HOWN := Lib.hid hown
    have hal := HAL.out i
    have hal2 : i * n ≤ 1048576 := by
      have h1 : i * n ≤ n * n := Nat.mul_le_mul_right _ hi
      have h2 : n * n ≤ 1024 * 1024 := Nat.mul_le_mul (by omega) (by omega)
      omega
    clear hg hb hown
    by_cases hlt : i < n
    · have hil : i < S.length := by rw [HN.out]; exact hlt
      obtain ⟨b, o, rfl, hbl, hc⟩ := HRS.out.at_ (by rw [rows_length]; exact Nat.mul_pos (by omega) (by decide))
      have hcr : ∀ j v, (rows S)[j]? = some v → wr.cell? ⟨b, o + j, none⟩ = some v := fun j v hj => by
        rw [HB.out.cell (p := ⟨b, o + j, none⟩) hbl]; exact hc j v hj
      generalize hx : S.getD i Kall.none = x
      obtain ⟨c0, c1, c2, c3, c4, c5⟩ := kall_cells hcr hil hx
      have HSTEP := Lib.hid (show allP l S (i + 1) = allP l S i ++ rowP l S x n by rw [allP, hx, HN.out])
      have HCC := Lib.hid hc
      clear hc hcr hx hil
      generalize allP l S i = pl at *
      have q1 : (0 : Int) ≤ (i : Int) := by omega
      have q2 : (i : Int) < (n : Int) := by omega
      have HBX : RowKit.Hid (Blk (wr.alloc (kbox x)) wr.heap.size 105 x.cells) := Lib.hid (Blk.new wr 105 x.cells)
      have HB2 := Lib.hid (HB.out.alloc HB.out.size (kbox x))
      have HO2 := Lib.hid (HOWN.out.alloc (kbox x))
      have hgo : wr.heap.size < (wr.alloc (kbox x)).heap.size := by simp
      have hgs : w1.heap.size ≤ wr.heap.size := HB.out.size
      go_wp2
      clear c0 c1 c2 c3 c4 c5 HB HOWN
      generalize wr.alloc (kbox x) = wo at *
      generalize wr.heap.size = gb at *
      go_loopg [5, 24] n (fun g v j wi => ∃ (k : Nat) (V : Option Addr) (cv : Nat), k ≤ n ∧ g = n - k ∧ j = .int .i64 k ∧ v = .slice V (pl ++ rowP l S x k).length cv ∧ wi.ownsRow w1.heap.size 75 2 (.slice V (pl ++ rowP l S x k).length cv) (pl ++ rowP l S x k).length (rows (pl ++ rowP l S x k)) ∧ Below w1.heap.size w1 wi ∧ Blk wi gb 105 x.cells)
      case atStart =>
        refine ⟨0, V, cv, Nat.zero_le _, rfl, rfl, ?_, ?_, HB2.out, HBX.out⟩
        · simp [rowP]
        · simpa [rowP] using HO2.out
      case round =>
        obtain ⟨k, V, cv, hk, hg, rfl, rfl, hown, hb, hbk⟩ := hrel
        have HGI := Lib.hid hg
        have HB := Lib.hid hb
        have HOWN := Lib.hid hown
        have HBK := Lib.hid hbk
        have hrl := rowP_len l S x k
        clear hg hb hown hbk
        by_cases hkn : k < n
        · have hkl : k < S.length := by rw [HN.out]; exact hkn
          have hcr : ∀ j v, (rows S)[j]? = some v → wr.cell? ⟨b, o + j, none⟩ = some v := fun j v hj => by
            rw [HB.out.cell (p := ⟨b, o + j, none⟩) hbl]; exact HCC.out j v hj
          generalize hy : S.getD k Kall.none = y
          obtain ⟨c0, c1, c2, c3, c4, c5⟩ := kall_cells hcr hkl hy
          have HYES := Lib.hid (fun h => rowP_yes (l := l) (a := x) hkl h)
          have HNOO := Lib.hid (fun h => rowP_no (l := l) (a := x) hkl h)
          rw [hy] at HYES HNOO
          have hrn : (pl ++ rowP l S x k).length ≤ 2097152 := by rw [List.length_append]; omega
          clear hcr hy hkl
          have q3 : (0 : Int) ≤ (k : Int) := by omega
          have q4 : (k : Int) < (n : Int) := by omega
          have HNEXT : RowKit.Hid (∀ (fn : Nat) (w3 : World), (pl ++ rowP l S x k).length = fn → pairB l x y = false → w3.ownsRow w1.heap.size 75 2 (.slice V fn cv) fn (rows (pl ++ rowP l S x k)) → Below w1.heap.size w1 w3 → Blk w3 gb 105 x.cells →
              ∃ (k' : Nat) (V' : Option Addr) (cv' : Nat), k' ≤ n ∧ n - (k + 1) = n - k' ∧ Value.int .i64 ((k : Int) + 1) = .int .i64 k' ∧ Value.slice V fn cv = .slice V' (pl ++ rowP l S x k').length cv' ∧ w3.ownsRow w1.heap.size 75 2 (.slice V' (pl ++ rowP l S x k').length cv') (pl ++ rowP l S x k').length (rows (pl ++ rowP l S x k')) ∧ Below w1.heap.size w1 w3 ∧ Blk w3 gb 105 x.cells) := Lib.hid (by
            intro fn w3 hfn hf ho hb hk3
            refine ⟨k + 1, V, cv, by omega, rfl, by go_num, ?_, ?_, hb, hk3⟩
            · rw [HNOO.out hf, hfn]
            · rw [HNOO.out hf, hfn]; exact ho)
          have HNE2 := Lib.hid (fun h => show pl ++ rowP l S x (k + 1) = (pl ++ rowP l S x k) ++ [⟨x.value, y.value⟩] by rw [HYES.out h, List.append_assoc])
          generalize hrr : pl ++ rowP l S x k = rl at *
          generalize hfn : rl.length = fn at *
          have HFN := Lib.hid hfn
          have HPB : RowKit.Hid (pairB l x y = match takesS l y.value with | [] => false | t :: _ => decide (x.fin < y.beg) && !goneS l x.value t.fin) := Lib.hid rfl
          clear hfn hrr
          go_wp2_with fail
          refine (HT.out L cl y.value _ ((HRL.out.below HB.out).alloc _)).mono ?_
          rintro e w2 ⟨T, ct, rfl, hrT, _, hTn, hb2⟩
          have hby : Blk w2 wr.heap.size 105 y.cells := (Blk.new wr 105 y.cells).below hb2 (by simp)
          have hbxx : Blk w2 gb 105 x.cells := (HBK.out.alloc _).below hb2 (by have := HBK.out.lt; simp; omega)
          have HB2' := Lib.hid ((HB.out.alloc HB.out.size (kbox y)).trans (hb2.mono (by have := HB.out.size; simp; omega)))
          have HO2' := Lib.hid (own_below (HOWN.out.alloc (kbox y)) hb2)
          have x1 : w2.cell? ⟨gb, 1, none⟩ = some (.int .i64 x.fin) := hbxx.cell rfl
          have x4 : w2.cell? ⟨gb, 4, none⟩ = some (.int .i64 x.value) := hbxx.cell rfl
          have y0 : w2.cell? ⟨wr.heap.size, 0, none⟩ = some (.int .i64 y.beg) := hby.cell rfl
          have y4 : w2.cell? ⟨wr.heap.size, 4, none⟩ = some (.int .i64 y.value) := hby.cell rfl
          have HBXX := Lib.hid hbxx
          have HBYY := Lib.hid hby
          clear hb2 c0 c1 c2 c3 c4 c5 hbxx hby HB HOWN HBK
          generalize wr.heap.size = gy at *
          by_cases hfb : x.fin < y.beg
          · have t1 : decide (x.fin < y.beg) = true := by simpa using hfb
            cases htk : takesS l y.value with
            | nil =>
              have HF := Lib.hid (show pairB l x y = false by rw [HPB.out, htk])
              clear htk hfb
              simp only [List.length_nil]
              go_wp2
              go_quiet (fail)
              go_wp2
              go_roundg (n - (k + 1))
              case measure => rw [HGI.out]; omega
              case rel => exact HNEXT.out fn _ rfl HF.out HO2'.out (Below.drewN' HB2'.out nq) HBXX.out
            | cons t r =>
              rw [htk] at hrT
              have HF := Lib.hid (show pairB l x y = !goneS l x.value t.fin by rw [HPB.out, htk, t1]; simp)
              obtain ⟨bt, ot, rfl, hbt, hct⟩ := hrT.at_ (by rw [rows_length]; exact Nat.mul_pos (by simp) (by decide))
              have f1 := (kall_cells hct (k := 0) (by simp) (x := t) rfl).2.1
              simp only [Nat.zero_mul, Nat.add_zero] at f1
              generalize htm : (t :: r).length = tm
              have htm1 : (0 : Int) < (tm : Int) := by rw [← htm]; simp
              have htm2 : decide (0 < tm) = true := by simp; omega
              have htm3 : 0 < tm := by omega
              have HGG := Lib.hid (fun W h => HGN.out L cl x.value t.fin W h)
              have hgl : gb < w2.heap.size := HBXX.out.lt
              have hyl : gy < w2.heap.size := HBYY.out.lt
              have HRL2 := Lib.hid (show Rd w2 L (rows l) from HRL.out.below HB2'.out)
              clear htk hfb hrT hct htm
              cases hgn : goneS l x.value t.fin
              all_goals
                rw [hgn] at HGG HF
                go_wp2
                go_region_held3 (fun w' => w'.cell? ⟨gb, 1, none⟩ = some (.int .i64 x.fin) ∧ w'.cell? ⟨gb, 4, none⟩ = some (.int .i64 x.value) ∧ w'.cell? ⟨gy, 0, none⟩ = some (.int .i64 y.beg) ∧ w'.cell? ⟨bt, ot + 1, none⟩ = some (.int .i64 t.fin)) (first | go_keep | (simp only [hk1, hk2, hk3]; go_keep))
                  (first | (go_at_call 55; refine (HGG.out _ (rd_drew HRL2.out)).mono ?_; rintro e w4 ⟨rfl, hb4⟩; have hk1 := fun o => hb4.cell (p := ⟨gb, o, none⟩) hgl; have hk2 := fun o => hb4.cell (p := ⟨gy, o, none⟩) hyl; have hk3 := fun o => hb4.cell (p := ⟨bt, o, none⟩) hbt))
                have HB4 := Lib.hid (HB2'.out.trans ((show Below w2.heap.size w2 w4 from ⟨hb4.os, hb4.tape, hb4.output, hb4.size, hb4.block⟩).mono HB2'.out.size))
                have HO4 := Lib.hid (own_below HO2'.out (show Below w2.heap.size w2 w4 from ⟨hb4.os, hb4.tape, hb4.output, hb4.size, hb4.block⟩))
                have HX4 := Lib.hid (HBXX.out.below (show Below w2.heap.size w2 w4 from ⟨hb4.os, hb4.tape, hb4.output, hb4.size, hb4.block⟩) hgl)
                have x4' : w4.cell? ⟨gb, 4, none⟩ = some (.int .i64 x.value) := HX4.out.cell rfl
                have y4' : w4.cell? ⟨gy, 4, none⟩ = some (.int .i64 y.value) := by rw [hk2]; exact y4
                clear hb4 hk1 hk2 hk3
                first
                  | (go_wp2_with (at_builtin; refine wpList_app rfl (.tmp 53) (.tmp 59) 72 75 rfl w1.heap.size (prV Pr.none) 2 16 Tryz.underlying72 Pr_info rfl (by decide) V fn cv (rows rl) rfl (HO4.out.alloc _) (some ⟨w4.heap.size, 0, none⟩) 1 1 (rows [(⟨x.value, y.value⟩ : Pr)]) rfl (by simp) rfl (blk_new rfl).rd (rows_one _) (fn + 1) rfl (rows (rl ++ [(⟨x.value, y.value⟩ : Pr)])) (rows_append _ _).symm (by unfold maxLen; omega) (by omega) (Nat.le_trans HB4.out.size (by simp)) ?_; intro V3 cv3 w6 hown3 hg3 hb6)
                     go_roundg (n - (k + 1))
                     case measure => rw [HGI.out]; omega
                     case rel =>
                       have e := HNE2.out HF.out
                       refine ⟨k + 1, V3, cv3, by omega, rfl, by go_num, ?_, ?_, (HB4.out.alloc HB4.out.size _).trans hb6, ?_⟩
                       · rw [e]; simp [HFN.out]
                       · rw [e]
                         simp only [List.length_append, List.length_cons, List.length_nil, HFN.out]
                         exact hown3
                       · exact blk_grown (HX4.out.alloc _) hg3 (own_blk_ne (HO4.out.alloc (kbox x)) (HX4.out.alloc (kbox x)) (by decide)))
                  | (go_wp2
                     go_roundg (n - (k + 1))
                     case measure => rw [HGI.out]; omega
                     case rel => exact HNEXT.out fn _ rfl HF.out HO4.out HB4.out HX4.out)
          · have t1 : decide (x.fin < y.beg) = false := by simpa using hfb
            have HF := Lib.hid (show pairB l x y = false by rw [HPB.out, t1]; split <;> simp)
            clear hfb
            generalize (takesS l y.value).length = tn
            go_wp2
            go_quiet (fail)
            go_wp2
            go_roundg (n - (k + 1))
            case measure => rw [HGI.out]; omega
            case rel => exact HNEXT.out fn _ rfl HF.out HO2'.out (Below.drewN' HB2'.out nq) HBXX.out
        · obtain rfl : k = n := by omega
          go_wp2
          go_roundg (k - (i + 1))
          case measure => rw [HG.out]; omega
          case rel =>
            refine ⟨i + 1, V, cv, by omega, rfl, by go_num, ?_, ?_, HB.out⟩
            · rw [HSTEP.out]
            · rw [HSTEP.out]; exact HOWN.out
    · obtain rfl : i = n := by omega
      generalize hfn : (allP l S i).length = fn at *
      have hle := own_le HOWN.out
      have HNO := Lib.hid (fun h => (own_none HOWN.out h).2.1)
      go_wp2
      go_ret
      refine ⟨V, cv, ?_, ?_, ?_, HNO.out, HB1.out.trans (HB.out.mono HB1.out.size)⟩
      · rw [HPS.out, hfn]; rfl
      · rw [HPS.out]; exact own_rd HOWN.out
      · rw [HPS.out, hfn]; exact hle

end Go.Proofs.YtieglgahfeecbaaGreatDoor

namespace Go.Proofs.YtieglgahfeecbaaGreatDoor
open Go.RowKit Go.Sort

def wrongS (l : List Kall) : Bool := decide (0 < (freshS l).length) || decide (0 < (twiceS l).length) || decide (0 < (passedS l).length) || decide (0 < (deniedS l).length)

set_option maxHeartbeats 4000000 in
set_option maxRecDepth 100000 in
theorem Wrong_any (A : Option Addr) (c : Nat) (ns : List Nte) (w : World) (hl : ns.length ≤ 1024) (hok : ThreadsOk ns) (hR : Rd w A (rows ns)) :
    Calls Tryz.prog 13 #[.slice A ns.length c] w fun e w' => e = .returned (.bool (wrongS (callsS ns))) ∧ Below w.heap.size w w' := by
  have HF := Lib.hid (Fresh_any A c ns w (by omega) hok hR)
  have HT := Lib.hid (fun W h => Twice_any A c ns W (by omega) hok h)
  have HP := Lib.hid (fun W h => Passed_any A c ns W hl hok h)
  have HD := Lib.hid (fun W h => Denied_any A c ns W (by omega) hok h)
  have HR := Lib.hid hR
  clear hok hR
  generalize ns.length = nn at *
  generalize callsS ns = l at *
  have HW : RowKit.Hid (wrongS l = (decide (0 < (freshS l).length) || decide (0 < (twiceS l).length) || decide (0 < (passedS l).length) || decide (0 < (deniedS l).length))) := Lib.hid rfl
  go_enter Tryz.func13, Tryz.ntmps13
  go_wp2_with fail
  refine HF.out.mono ?_
  rintro e w1 ⟨V1, c1, rfl, _, hb1⟩
  have HB1 := Lib.hid hb1
  clear hb1
  generalize (freshS l).length = n1 at *
  cases h1 : decide (0 < n1)
  · rw [h1] at HW
    go_wp2_with fail
    refine (HT.out _ (HR.out.below HB1.out)).mono ?_
    rintro e w2 ⟨V2, c2, rfl, _, _, _, hb2⟩
    have HB2 := Lib.hid (HB1.out.trans (hb2.mono HB1.out.size))
    clear hb2
    generalize (twiceS l).length = n2 at *
    cases h2 : decide (0 < n2)
    · rw [h2] at HW
      go_wp2_with fail
      refine (HP.out _ (HR.out.below HB2.out)).mono ?_
      rintro e w3 ⟨V3, c3, rfl, _, _, _, hb3⟩
      have HB3 := Lib.hid (HB2.out.trans (hb3.mono HB2.out.size))
      clear hb3
      generalize (passedS l).length = n3 at *
      cases h3 : decide (0 < n3)
      · rw [h3] at HW
        go_wp2_with fail
        refine (HD.out _ (HR.out.below HB3.out)).mono ?_
        rintro e w4 ⟨V4, c4, rfl, _, hb4⟩
        have HB4 := Lib.hid (HB3.out.trans (hb4.mono HB3.out.size))
        clear hb4
        generalize (deniedS l).length = n4 at *
        cases h4 : decide (0 < n4)
        all_goals
          rw [h4] at HW
          go_wp2
          go_ret
          exact ⟨ret_bool (by rw [HW.out]; rfl), HB4.out⟩
      · rw [h3] at HW
        go_wp2
        go_ret
        exact ⟨ret_bool (by rw [HW.out]; simp), HB3.out⟩
    · rw [h2] at HW
      go_wp2
      go_ret
      exact ⟨ret_bool (by rw [HW.out]; simp), HB2.out⟩
  · rw [h1] at HW
    go_wp2
    go_ret
    exact ⟨ret_bool (by rw [HW.out]; simp), HB1.out⟩

end Go.Proofs.YtieglgahfeecbaaGreatDoor

namespace Go.Proofs.YtieglgahfeecbaaGreatDoor

theorem sure_mem {l : List Kall} {x : Kall} (hx : x ∈ l) : (!unsureB (valuesS l) x) = sureB l x := by
  unfold unsureB sureB
  by_cases hp : x.put = true
  · by_cases hd : doneB x = true
    · have : (valuesS l).contains x.value = decide ((putsS l x.value).length = 1) := by
        rw [Bool.eq_iff_iff]
        simp only [List.contains_iff_mem, decide_eq_true_eq]
        unfold valuesS
        constructor
        · intro h
          obtain ⟨y, hy, he⟩ := List.mem_map.1 h
          have := (List.mem_filter.1 hy).2
          simp only [soleB, Bool.and_eq_true, decide_eq_true_eq] at this
          rw [← he]; exact this.2
        · intro h
          refine List.mem_map.2 ⟨x, List.mem_filter.2 ⟨hx, ?_⟩, rfl⟩
          simp [soleB, hp, h]
      rw [hp, hd, this]; cases decide ((putsS l x.value).length = 1) <;> rfl
    · simp [hp, hd]
  · simp [hp]

theorem sure_filter (l : List Kall) : sureS l = l.filter (sureB l) := List.filter_congr (fun _ hx => sure_mem hx)

theorem under_same (l : List Kall) : runderS l = underS l := by
  unfold runderS underS
  rw [sure_filter, List.filter_filter]
  congr 1
  exact List.filter_congr (fun x _ => by simp only [rundB, underB]; rw [Bool.and_comm])

/-- The document's question at a take that found nothing. -/
def rdenB (l : List Kall) (x : Kall) : Bool := l.any (fun p => sureB l p && thereB l x p) && askB x
def rdeniedS (l : List Kall) : List Int := (l.filter (rdenB l)).map Kall.beg

theorem denied_same (l : List Kall) : rdeniedS l = deniedS l := by
  unfold rdeniedS deniedS
  congr 1
  refine List.filter_congr (fun x _ => ?_)
  unfold rdenB denB
  rw [sure_filter, List.any_filter, Bool.and_comm]

/-- Rows of pairs, by whatever question. -/
def rowG (q : Kall → Kall → Bool) (S : List Kall) (a : Kall) (k : Nat) : List Pr := ((S.take k).filter (q a)).map fun b => ⟨a.value, b.value⟩
def allG (q : Kall → Kall → Bool) (S : List Kall) : Nat → List Pr
  | 0 => []
  | i + 1 => allG q S i ++ rowG q S (S.getD i Kall.none) S.length

theorem rowG_len (q : Kall → Kall → Bool) (S : List Kall) (a : Kall) (k : Nat) : (rowG q S a k).length ≤ k := by
  unfold rowG
  rw [List.length_map]
  exact ints_len_filter S _ k
theorem allG_len (q : Kall → Kall → Bool) (S : List Kall) : ∀ i, (allG q S i).length ≤ i * S.length
  | 0 => by simp [allG]
  | i + 1 => by
    have := allG_len q S i
    have h2 := rowG_len q S (S.getD i Kall.none) S.length
    rw [allG, List.length_append, Nat.succ_mul]
    omega
theorem rowG_yes {q : Kall → Kall → Bool} {S : List Kall} {a : Kall} {k : Nat} (h : k < S.length) (hp : q a (S.getD k Kall.none) = true) : rowG q S a (k + 1) = rowG q S a k ++ [⟨a.value, (S.getD k Kall.none).value⟩] := by
  unfold rowG
  rw [filter_take_yes (p := q a) (d := Kall.none) h hp, List.map_append]; rfl
theorem rowG_no {q : Kall → Kall → Bool} {S : List Kall} {a : Kall} {k : Nat} (h : k < S.length) (hp : q a (S.getD k Kall.none) = false) : rowG q S a (k + 1) = rowG q S a k := by
  unfold rowG
  rw [filter_take_no (p := q a) (d := Kall.none) h hp]

theorem allG_flat (q : Kall → Kall → Bool) (S : List Kall) : ∀ i, i ≤ S.length → allG q S i = (S.take i).flatMap fun a => (S.filter (q a)).map fun b => (⟨a.value, b.value⟩ : Pr)
  | 0, _ => by simp [allG]
  | i + 1, h => by
    rw [allG, allG_flat q S i (by omega), take_succ_K S i (by omega), List.flatMap_append]
    simp [rowG]

theorem allP_G (l S : List Kall) : ∀ i, allP l S i = allG (pairB l) S i
  | 0 => rfl
  | i + 1 => by rw [allP, allG, allP_G l S i]; rfl

/-- The document's question at two puts. -/
def rpairB (l : List Kall) (a b : Kall) : Bool := sureB l a && sureB l b && pairB l a b
def rpassedS (l : List Kall) : List Pr := allG (rpairB l) l l.length

theorem flat_sure (l : List Kall) : ∀ o : List Kall, (o.flatMap fun a => (l.filter (rpairB l a)).map fun b => (⟨a.value, b.value⟩ : Pr)) = (o.filter (sureB l)).flatMap fun a => ((l.filter (sureB l)).filter (pairB l a)).map fun b => (⟨a.value, b.value⟩ : Pr)
  | [] => rfl
  | a :: o => by
    rw [List.flatMap_cons, flat_sure l o]
    by_cases h : sureB l a = true
    · rw [List.filter_cons_of_pos h, List.flatMap_cons, List.filter_filter]
      congr 2
      refine List.filter_congr (fun b _ => ?_)
      simp only [rpairB, h, Bool.true_and]
      rw [Bool.and_comm]
    · rw [List.filter_cons_of_neg h]
      have : l.filter (rpairB l a) = [] := List.filter_eq_nil_iff.2 (fun b _ => by simp [rpairB, h])
      rw [this]; rfl

theorem passed_same (l : List Kall) : rpassedS l = passedS l := by
  unfold rpassedS passedS
  rw [allP_G, allG_flat _ _ _ (Nat.le_refl _), allG_flat _ _ _ (Nat.le_refl _), List.take_length, List.take_length, flat_sure, sure_filter]

/-- The document's question at a take. -/
def rfreshB (l : List Kall) (out : List Int) (x : Kall) : Bool := (!x.put && doneB x && !l.any (fun p => p.put && p.value == x.value && decide (p.beg < x.fin))) && !out.any (fun v => v == x.value)

theorem rfresh_same (l : List Kall) (out : List Int) (x : Kall) : rfreshB l out x = freshB l out x := by
  unfold rfreshB freshB putsS
  have h1 : l.any (fun p => p.put && p.value == x.value && decide (p.beg < x.fin)) = (l.filter fun y => !noPut x.value y).any (fun p => decide (p.beg < x.fin)) := by
    rw [List.any_filter]
    congr 1
    funext p
    simp only [noPut]
    cases p.put
    · simp
    · by_cases h : p.value = x.value
      · simp [h]
      · have h1 : (p.value == x.value) = false := by simpa using h
        have h2 : (p.value != x.value) = true := by simpa using h
        rw [h1, h2]; simp
  have h2 : out.any (fun v => v == x.value) = out.contains x.value := by
    rw [← any_contains]
    congr 1
    funext v
    rw [Bool.eq_iff_iff, beq_iff_eq, beq_iff_eq]
    exact eq_comm
  rw [h1, h2]
  simp only [Bool.and_assoc]
  congr 2
  rw [Bool.and_comm]

def openN (l : List Kall) : Nat := (l.filter fun x => x.opn).length
theorem openN_le (l : List Kall) (k : Nat) : openN (l.take k) ≤ k := ints_len_filter l _ k
theorem openN_step {l : List Kall} {k : Nat} (h : k < l.length) : openN (l.take (k + 1)) = openN (l.take k) + (if (l.getD k Kall.none).opn = true then 1 else 0) := by
  unfold openN
  rw [take_succ_K l k h, List.filter_append, List.length_append]
  congr 1
  generalize l.getD k Kall.none = x
  by_cases h1 : x.opn = true <;> simp [h1]
theorem settled_open (l : List Kall) : (!l.any (fun x => x.opn)) = decide ((openN l : Int) = 0) := by
  unfold openN
  rw [Bool.eq_iff_iff]
  simp

theorem wrong_sum (l : List Kall) : wrongS l = decide (0 < (passedS l).length + (freshS l).length + (twiceS l).length + (deniedS l).length) := by
  unfold wrongS
  rw [Bool.eq_iff_iff]
  simp only [Bool.or_eq_true, decide_eq_true_eq]
  omega

end Go.Proofs.YtieglgahfeecbaaGreatDoor
