/- code: words are taken from the front: walked. -/
import Derived.IntWalk
import Derived.BigQuiet
import Derived.OwnWalk
import Derived.Laws.Bits64b
import Derived.Test.YtieglgahfeecbaaGreatDoorP1
import Derived.Test.YtieglgahfeecbaaGreatDoorP2
set_option maxHeartbeats 64000000
set_option maxRecDepth 100000
namespace Go.Proofs.YtieglgahfeecbaaGreatDoor
open Go.RowKit Go.Sort
attribute [local go_sem ↓] Go.wp_at_zero Go.wp_at_succ
theorem own_blk {w : World} {base : Nat} {e : TypeId} {s n g : Nat} {c : Nat} {xs : List Value} (h : w.ownsRow base e s (.slice (some ⟨g, 0, none⟩) n c) n xs) : ∃ cur, w.heap[g]? = some (.cells cur e (0, 0)) := by
 rcases h.2 with ⟨hv, _⟩ | ⟨g', cap, cur, hv, _, hh, _⟩
 . cases hv
 . injection hv with hA _ _
   injection hA with hA
   injection hA with hA
   subst hA
   exact ⟨cur, hh⟩
theorem own_ty {w : World} {base : Nat} {e e' : TypeId} {s n g : Nat} {v : Value} {xs : List Value} {cur : Array Value} (h : w.ownsRow base e s v n xs) (hg : w.heap[g]? = some (.cells cur e' (0, 0))) (hne : e ≠ e') (i : Nat) (u : Value) :
  (w.setCell ⟨g, i, none⟩ u).ownsRow base e s v n xs := by
 refine ⟨h.1, ?_⟩
 rcases h.2 with h2 | ⟨k, cap, cur2, hv, hb, hh, r⟩
 . exact .inl h2
 . refine .inr ⟨k, cap, cur2, hv, hb, ?_, r⟩
   have hk : k ≠ g := by
    rintro rfl
    rw [hh] at hg
    simp only [Option.some.injEq, Obj.cells.injEq] at hg
    exact hne hg.2.1
   exact (Below.heap_setCell w ⟨g, i, none⟩ u k hk).trans hh
theorem own_low {w : World} {base : Nat} {e : TypeId} {s n g : Nat} {v : Value} {xs : List Value} (h : w.ownsRow base e s v n xs) (hg : g < base) (i : Nat) (u : Value) :
  (w.setCell ⟨g, i, none⟩ u).ownsRow base e s v n xs := by
 refine ⟨h.1, ?_⟩
 rcases h.2 with h2 | ⟨k, cap, cur2, hv, hb, hh, r⟩
 . exact .inl h2
 . exact .inr ⟨k, cap, cur2, hv, hb, (Below.heap_setCell w ⟨g, i, none⟩ u k (by show k ≠ g; omega)).trans hh, r⟩
theorem own_put {w : World} {base : Nat} {e : TypeId} {s n g : Nat} {c : Nat} {xs ys : List Value} (h : w.ownsRow base e s (.slice (some ⟨g, 0, none⟩) n c) n xs) (hn : 0 < n) (j : Nat) (u : Value) (hj : j < n * s) (hy : xs.set j u = ys) :
  (w.setCell ⟨g, j, none⟩ u).ownsRow base e s (.slice (some ⟨g, 0, none⟩) n c) n ys := hy ▸ own_set h hn j u hj
theorem own_free {w : World} {base : Nat} {e : TypeId} {s n g : Nat} {c : Nat} {xs : List Value} (h : w.ownsRow base e s (.slice (some ⟨g, 0, none⟩) n c) n xs) (i : Nat) : w.frozen? ⟨g, i, none⟩ = false := by
 obtain ⟨cur, hh⟩ := own_blk h
 simp [World.frozen?, hh]
theorem own_lt {w : World} {base : Nat} {e : TypeId} {s n g : Nat} {c : Nat} {xs : List Value} (h : w.ownsRow base e s (.slice (some ⟨g, 0, none⟩) n c) n xs) : g < w.heap.size := by
 obtain ⟨cur, hh⟩ := own_blk h
 rcases Nat.lt_or_ge g w.heap.size with hlt | hge
 . exact hlt
 . rw [Array.getElem?_eq_none hge] at hh; cases hh
theorem own_base {w : World} {base : Nat} {e : TypeId} {s n g : Nat} {c : Nat} {xs : List Value} (h : w.ownsRow base e s (.slice (some ⟨g, 0, none⟩) n c) n xs) : base <= g := own_block h g rfl
theorem own_cellAt {w : World} {base : Nat} {e : TypeId} {s n g : Nat} {c : Nat} {xs : List Value} (h : w.ownsRow base e s (.slice (some ⟨g, 0, none⟩) n c) n xs) : ∀ k v, xs[k]? = some v -> w.cell? ⟨g, 0 + k, none⟩ = some v := by
 intro k v hk
 have hr := own_rd h
 rcases hr with rfl | ⟨b, o, he, _, hc⟩
 . simp at hk
 . injection he with he
   injection he with h1 h2
   subst h1 h2
   exact hc k v hk
structure WtsAt (w : World) (A : Option Addr) (n : Nat) (l : List Wtr) : Prop where
 len : l.length = n
 few : n <= 1048576
 rd : Rd w A (rows l)
 cs : ∀ x ∈ l, Rd w x.A (rows x.cs)
 csl : ∀ x ∈ l, x.cs.length <= 1048576
 nil : ∀ x ∈ l, x.A = none -> x.cs.length = 0 /\ x.c = 0
theorem WtsAt.below {w w' : World} {A : Option Addr} {n : Nat} {l : List Wtr} (h : WtsAt w A n l) (hb : Below w.heap.size w w') : WtsAt w' A n l :=
 ⟨h.len, h.few, h.rd.below hb, fun x hx => (h.cs x hx).below hb, h.csl, h.nil⟩
structure OwnWts (base : Nat) (w : World) (A : Option Addr) (n c : Nat) (l : List Wtr) : Prop where
 row : w.ownsRow base 128 4 (.slice A n c) n (rows l)
 cs : ∀ x ∈ l, w.ownsRow base 100 3 (.slice x.A x.cs.length x.c) x.cs.length (rows x.cs)
theorem OwnWts.len {base : Nat} {w : World} {A : Option Addr} {n c : Nat} {l : List Wtr} (h : OwnWts base w A n c l) : l.length = n := by
 have h1 := h.row.1
 have h2 := rows_length l
 simp only [Cellful.s] at h2
 omega
theorem OwnWts.below {base : Nat} {w w' : World} {A : Option Addr} {n c : Nat} {l : List Wtr} (h : OwnWts base w A n c l) (hb : Below w.heap.size w w') : OwnWts base w' A n c l :=
 ⟨own_below h.row hb, fun x hx => own_below (h.cs x hx) hb⟩
theorem OwnWts.lower {base b : Nat} {w : World} {A : Option Addr} {n c : Nat} {l : List Wtr} (h : OwnWts base w A n c l) (hb : b <= base) : OwnWts b w A n c l :=
 ⟨own_lower h.row hb, fun x hx => own_lower (h.cs x hx) hb⟩
theorem OwnWts.at_ {base : Nat} {w : World} {A : Option Addr} {n c : Nat} {l : List Wtr} (h : OwnWts base w A n c l) (hn : n <= 1048576) (hc : ∀ x ∈ l, x.cs.length <= 1048576) : WtsAt w A n l :=
 ⟨h.len, hn, own_rd h.row, fun x hx => own_rd (h.cs x hx), hc, fun x hx hA => by
  have := own_none (h.cs x hx) hA
  exact ⟨this.1, this.2.1⟩⟩
theorem map_mem_len {l : List Wtr} {pl : List WtP} (h : l.map Wtr.p = pl) {N : Nat} (hp : ∀ x ∈ pl, x.cs.length <= N) : ∀ x ∈ l, x.cs.length <= N := by
 intro x hx
 exact hp x.p (by rw [<- h]; exact List.mem_map_of_mem hx)
def RetWts (pl : List WtP) (w : World) (e : Ending) (w' : World) : Prop :=
 ∃ A c l, e = .returned (.slice A pl.length c) /\ l.map Wtr.p = pl /\ OwnWts w.heap.size w' A pl.length c l /\ Below w.heap.size w w'
def RetWtsB (r : List WtP × Bool) (w : World) (e : Ending) (w' : World) : Prop :=
 ∃ A c l, e = .returned (.tuple #[.slice A r.1.length c, .bool r.2]) /\ l.map Wtr.p = r.1 /\ OwnWts w.heap.size w' A r.1.length c l /\ Below w.heap.size w w'
theorem OwnWts.low {base : Nat} {w : World} {A : Option Addr} {n c g : Nat} {l : List Wtr} (h : OwnWts base w A n c l) (hg : g < base) (i : Nat) (u : Value) :
  OwnWts base (w.setCell ⟨g, i, none⟩ u) A n c l := ⟨own_low h.row hg i u, fun x hx => own_low (h.cs x hx) hg i u⟩
theorem OwnWts.box {base : Nat} {w : World} {A : Option Addr} {n c g : Nat} {l : List Wtr} {cur : Array Value} {e' : TypeId} (h : OwnWts base w A n c l) (hg : w.heap[g]? = some (.cells cur e' (0, 0))) (h1 : 128 ≠ e') (h2 : 100 ≠ e') (i : Nat) (u : Value) :
  OwnWts base (w.setCell ⟨g, i, none⟩ u) A n c l := ⟨own_ty h.row hg h1 i u, fun x hx => own_ty (h.cs x hx) hg h2 i u⟩
theorem IndexC_any (A : Option Addr) (c : Nat) (l : List Cse) (f : FuncId) (caps : Array Value) (p : Cse -> Bool) (w : World) (hl : l.length <= maxLen)
  (hR : Rd w A (rows l)) (hf : Enters f) (hp : AsksV cseV w f caps p l) :
  Calls Tryz.prog 213 #[.slice A l.length c, .func (.func f) #[] caps] w fun e w' => e = .returned (.int .i64 (firstV p l 0)) /\ Below w.heap.size w w' := by
 unfold maxLen at hl
 have HR := Zd hR
 have HP := Zd hp
 clear hR hp
 generalize hn : l.length = n at hl ⊢
 have HN := Zd hn
 clear hn
 go_enter Tryz.func213, Tryz.ntmps213
 go_wp2
 go_loopw [8] (fun i wr => ∃ k : Nat, k <= n /\ i = .int .i64 k /\ Below w.heap.size w wr /\ ∀ j, j < k -> p (l.getD j Cse.none) = false) (fun i _ => n - (intOf i).toNat)
 case atStart => exact ⟨0, Nat.zero_le _, rfl, Below.refl _ _, fun j hj => absurd hj (by omega)⟩
 case round =>
  obtain ⟨k, hk, rfl, hb, hno⟩ := hrel
  have HNO := Zd hno
  clear hno
  by_cases hlt : k < n
  . have hkl : k < l.length := by rw [HN.out]; exact hlt
    obtain ⟨b, o, rfl, hbl, hc⟩ := HR.out.at_ (by rw [rows_length]; simp only [Cellful.s]; omega)
    have hcr : ∀ j v, (rows l)[j]? = some v -> wr.cell? ⟨b, o + j, none⟩ = some v := fun j v hj => by
     rw [hb.cell (p := ⟨b, o + j, none⟩) hbl]; exact hc j v hj
    have HC := Zd hc
    clear hc
    have hmem : l.getD k Cse.none ∈ l := by simp [hkl]
    generalize hx : l.getD k Cse.none = x at hmem
    obtain ⟨c0, c1, c2⟩ := cse_cells hcr hkl hx
    have HX := Zd hx
    clear hx hkl hcr
    have hcall := HP.out x hmem wr hb
    have HCALL := Zd hcall
    clear hcall hmem
    have hrun := hf (#[cseV x] ++ caps) wr
    unfold cseV at hrun
    by_cases hpx : p x = true
    . go_wp2_with (first | (refine HCALL.out.mono ?_; rintro e w1 ⟨rfl, hb1⟩))
      go_ret
      exact ⟨ret_int (by rw [firstV_hit Cse.none l 0 k (by rw [HN.out]; exact hlt) HNO.out (by rw [HX.out]; exact hpx)]; simp), hb.trans (hb1.mono hb.size)⟩
    . simp only [Bool.not_eq_true] at hpx
      go_wp2_with (first | (refine HCALL.out.mono ?_; rintro e w1 ⟨rfl, hb1⟩))
      go_roundw
      case rel =>
       refine ⟨k + 1, by omega, by go_num, hb.trans (hb1.mono hb.size), fun j hj => ?_⟩
       by_cases hjk : j = k
       . subst hjk; rw [HX.out]; exact hpx
       . exact HNO.out j (by omega)
      case measure => simp [intOf]; omega
  . go_wp2
    go_ret
    refine ⟨ret_int ?_, hb⟩
    rw [firstV_none l 0 (fun x hx => ?_)]
    obtain ⟨j, hj, rfl⟩ := List.getElem_of_mem hx
    have := HNO.out j (by have := HN.out; omega)
    simpa [List.getD, hj] using this
theorem HasC_any (A : Option Addr) (c : Nat) (l : List Cse) (f : FuncId) (caps : Array Value) (p : Cse -> Bool) (w : World) (hl : l.length <= maxLen)
  (hR : Rd w A (rows l)) (hf : Enters f) (hp : AsksV cseV w f caps p l) :
  Calls Tryz.prog 218 #[.slice A l.length c, .func (.func f) #[] caps] w fun e w' => e = .returned (.bool (l.any p)) /\ Below w.heap.size w w' := by
 have HI := Zd (IndexC_any A c l f caps p w hl hR hf hp)
 have hlo := firstV_lo (p := p) l 0
 have HL := Zd hlo
 clear hR hp hf hl hlo
 by_cases h : 0 <= firstV p l 0
 all_goals
  go_enter Tryz.func218, Tryz.ntmps218
  go_wp2_with (first | (refine HI.out.mono ?_; rintro e w1 ⟨rfl, hb1⟩))
  go_ret
  refine ⟨ret_bool ?_, hb1⟩
  have e := HL.out.2
  first | exact (e.1 h).symm | (rw [Bool.eq_iff_iff, decide_eq_true_iff]; exact e) | (rw [eq_comm, Bool.eq_false_iff]; exact fun h' => h (e.2 h'))
theorem IndexCh_any (A : Option Addr) (c : Nat) (l : List Chn) (f : FuncId) (caps : Array Value) (p : Chn -> Bool) (w : World) (hl : l.length <= maxLen)
  (hR : Rd w A (rows l)) (hf : Enters f) (hp : AsksV chnV w f caps p l) :
  Calls Tryz.prog 144 #[.slice A l.length c, .func (.func f) #[] caps] w fun e w' => e = .returned (.int .i64 (firstV p l 0)) /\ Below w.heap.size w w' := by
 unfold maxLen at hl
 have HR := Zd hR
 have HP := Zd hp
 clear hR hp
 generalize hn : l.length = n at hl ⊢
 have HN := Zd hn
 clear hn
 go_enter Tryz.func144, Tryz.ntmps144
 go_wp2
 go_loopw [8] (fun i wr => ∃ k : Nat, k <= n /\ i = .int .i64 k /\ Below w.heap.size w wr /\ ∀ j, j < k -> p (l.getD j Chn.none) = false) (fun i _ => n - (intOf i).toNat)
 case atStart => exact ⟨0, Nat.zero_le _, rfl, Below.refl _ _, fun j hj => absurd hj (by omega)⟩
 case round =>
  obtain ⟨k, hk, rfl, hb, hno⟩ := hrel
  have HNO := Zd hno
  clear hno
  by_cases hlt : k < n
  . have hkl : k < l.length := by rw [HN.out]; exact hlt
    obtain ⟨b, o, rfl, hbl, hc⟩ := HR.out.at_ (by rw [rows_length]; simp only [Cellful.s]; omega)
    have hcr : ∀ j v, (rows l)[j]? = some v -> wr.cell? ⟨b, o + j, none⟩ = some v := fun j v hj => by
     rw [hb.cell (p := ⟨b, o + j, none⟩) hbl]; exact hc j v hj
    have HC := Zd hc
    clear hc
    have hmem : l.getD k Chn.none ∈ l := by simp [hkl]
    generalize hx : l.getD k Chn.none = x at hmem
    obtain ⟨c0, c1, c2, c3, c4⟩ := chn_cells hcr hkl hx
    have HX := Zd hx
    clear hx hkl hcr
    have hcall := HP.out x hmem wr hb
    have HCALL := Zd hcall
    clear hcall hmem
    have hrun := hf (#[chnV x] ++ caps) wr
    unfold chnV at hrun
    by_cases hpx : p x = true
    . go_wp2_with (first | (refine HCALL.out.mono ?_; rintro e w1 ⟨rfl, hb1⟩))
      go_ret
      exact ⟨ret_int (by rw [firstV_hit Chn.none l 0 k (by rw [HN.out]; exact hlt) HNO.out (by rw [HX.out]; exact hpx)]; simp), hb.trans (hb1.mono hb.size)⟩
    . simp only [Bool.not_eq_true] at hpx
      go_wp2_with (first | (refine HCALL.out.mono ?_; rintro e w1 ⟨rfl, hb1⟩))
      go_roundw
      case rel =>
       refine ⟨k + 1, by omega, by go_num, hb.trans (hb1.mono hb.size), fun j hj => ?_⟩
       by_cases hjk : j = k
       . subst hjk; rw [HX.out]; exact hpx
       . exact HNO.out j (by omega)
      case measure => simp [intOf]; omega
  . go_wp2
    go_ret
    refine ⟨ret_int ?_, hb⟩
    rw [firstV_none l 0 (fun x hx => ?_)]
    obtain ⟨j, hj, rfl⟩ := List.getElem_of_mem hx
    have := HNO.out j (by have := HN.out; omega)
    simpa [List.getD, hj] using this
theorem HasCh_any (A : Option Addr) (c : Nat) (l : List Chn) (f : FuncId) (caps : Array Value) (p : Chn -> Bool) (w : World) (hl : l.length <= maxLen)
  (hR : Rd w A (rows l)) (hf : Enters f) (hp : AsksV chnV w f caps p l) :
  Calls Tryz.prog 109 #[.slice A l.length c, .func (.func f) #[] caps] w fun e w' => e = .returned (.bool (l.any p)) /\ Below w.heap.size w w' := by
 have HI := Zd (IndexCh_any A c l f caps p w hl hR hf hp)
 have hlo := firstV_lo (p := p) l 0
 have HL := Zd hlo
 clear hR hp hf hl hlo
 by_cases h : 0 <= firstV p l 0
 all_goals
  go_enter Tryz.func109, Tryz.ntmps109
  go_wp2_with (first | (refine HI.out.mono ?_; rintro e w1 ⟨rfl, hb1⟩))
  go_ret
  refine ⟨ret_bool ?_, hb1⟩
  have e := HL.out.2
  first | exact (e.1 h).symm | (rw [Bool.eq_iff_iff, decide_eq_true_iff]; exact e) | (rw [eq_comm, Bool.eq_false_iff]; exact fun h' => h (e.2 h'))
theorem IndexWt_any (A : Option Addr) (c : Nat) (l : List Wtr) (f : FuncId) (caps : Array Value) (p : Wtr -> Bool) (w : World) (hl : l.length <= maxLen)
  (hR : Rd w A (rows l)) (hf : Enters f) (hp : AsksV wtrV w f caps p l) :
  Calls Tryz.prog 145 #[.slice A l.length c, .func (.func f) #[] caps] w fun e w' => e = .returned (.int .i64 (firstV p l 0)) /\ Below w.heap.size w w' := by
 unfold maxLen at hl
 have HR := Zd hR
 have HP := Zd hp
 clear hR hp
 generalize hn : l.length = n at hl ⊢
 have HN := Zd hn
 clear hn
 go_enter Tryz.func145, Tryz.ntmps145
 go_wp2
 go_loopw [8] (fun i wr => ∃ k : Nat, k <= n /\ i = .int .i64 k /\ Below w.heap.size w wr /\ ∀ j, j < k -> p (l.getD j Wtr.none) = false) (fun i _ => n - (intOf i).toNat)
 case atStart => exact ⟨0, Nat.zero_le _, rfl, Below.refl _ _, fun j hj => absurd hj (by omega)⟩
 case round =>
  obtain ⟨k, hk, rfl, hb, hno⟩ := hrel
  have HNO := Zd hno
  clear hno
  by_cases hlt : k < n
  . have hkl : k < l.length := by rw [HN.out]; exact hlt
    obtain ⟨b, o, rfl, hbl, hc⟩ := HR.out.at_ (by rw [rows_length]; simp only [Cellful.s]; omega)
    have hcr : ∀ j v, (rows l)[j]? = some v -> wr.cell? ⟨b, o + j, none⟩ = some v := fun j v hj => by
     rw [hb.cell (p := ⟨b, o + j, none⟩) hbl]; exact hc j v hj
    have HC := Zd hc
    clear hc
    have hmem : l.getD k Wtr.none ∈ l := by simp [hkl]
    generalize hx : l.getD k Wtr.none = x at hmem
    obtain ⟨c0, c1, c2, c3⟩ := wtr_cells hcr hkl hx
    have HX := Zd hx
    clear hx hkl hcr
    have hcall := HP.out x hmem wr hb
    have HCALL := Zd hcall
    clear hcall hmem
    have hrun := hf (#[wtrV x] ++ caps) wr
    unfold wtrV at hrun
    by_cases hpx : p x = true
    . go_wp2_with (first | (refine HCALL.out.mono ?_; rintro e w1 ⟨rfl, hb1⟩))
      go_ret
      exact ⟨ret_int (by rw [firstV_hit Wtr.none l 0 k (by rw [HN.out]; exact hlt) HNO.out (by rw [HX.out]; exact hpx)]; simp), hb.trans (hb1.mono hb.size)⟩
    . simp only [Bool.not_eq_true] at hpx
      go_wp2_with (first | (refine HCALL.out.mono ?_; rintro e w1 ⟨rfl, hb1⟩))
      go_roundw
      case rel =>
       refine ⟨k + 1, by omega, by go_num, hb.trans (hb1.mono hb.size), fun j hj => ?_⟩
       by_cases hjk : j = k
       . subst hjk; rw [HX.out]; exact hpx
       . exact HNO.out j (by omega)
      case measure => simp [intOf]; omega
  . go_wp2
    go_ret
    refine ⟨ret_int ?_, hb⟩
    rw [firstV_none l 0 (fun x hx => ?_)]
    obtain ⟨j, hj, rfl⟩ := List.getElem_of_mem hx
    have := HNO.out j (by have := HN.out; omega)
    simpa [List.getD, hj] using this
theorem HasWt_any (A : Option Addr) (c : Nat) (l : List Wtr) (f : FuncId) (caps : Array Value) (p : Wtr -> Bool) (w : World) (hl : l.length <= maxLen)
  (hR : Rd w A (rows l)) (hf : Enters f) (hp : AsksV wtrV w f caps p l) :
  Calls Tryz.prog 112 #[.slice A l.length c, .func (.func f) #[] caps] w fun e w' => e = .returned (.bool (l.any p)) /\ Below w.heap.size w w' := by
 have HI := Zd (IndexWt_any A c l f caps p w hl hR hf hp)
 have hlo := firstV_lo (p := p) l 0
 have HL := Zd hlo
 clear hR hp hf hl hlo
 by_cases h : 0 <= firstV p l 0
 all_goals
  go_enter Tryz.func112, Tryz.ntmps112
  go_wp2_with (first | (refine HI.out.mono ?_; rintro e w1 ⟨rfl, hb1⟩))
  go_ret
  refine ⟨ret_bool ?_, hb1⟩
  have e := HL.out.2
  first | exact (e.1 h).symm | (rw [Bool.eq_iff_iff, decide_eq_true_iff]; exact e) | (rw [eq_comm, Bool.eq_false_iff]; exact fun h' => h (e.2 h'))
theorem IndexRs_any (A : Option Addr) (c : Nat) (l : List Resr) (f : FuncId) (caps : Array Value) (p : Resr -> Bool) (w : World) (hl : l.length <= maxLen)
  (hR : Rd w A (rows l)) (hf : Enters f) (hp : AsksV rsV w f caps p l) :
  Calls Tryz.prog 177 #[.slice A l.length c, .func (.func f) #[] caps] w fun e w' => e = .returned (.int .i64 (firstV p l 0)) /\ Below w.heap.size w w' := by
 unfold maxLen at hl
 have HR := Zd hR
 have HP := Zd hp
 clear hR hp
 generalize hn : l.length = n at hl ⊢
 have HN := Zd hn
 clear hn
 go_enter Tryz.func177, Tryz.ntmps177
 go_wp2
 go_loopw [8] (fun i wr => ∃ k : Nat, k <= n /\ i = .int .i64 k /\ Below w.heap.size w wr /\ ∀ j, j < k -> p (l.getD j Resr.none) = false) (fun i _ => n - (intOf i).toNat)
 case atStart => exact ⟨0, Nat.zero_le _, rfl, Below.refl _ _, fun j hj => absurd hj (by omega)⟩
 case round =>
  obtain ⟨k, hk, rfl, hb, hno⟩ := hrel
  have HNO := Zd hno
  clear hno
  by_cases hlt : k < n
  . have hkl : k < l.length := by rw [HN.out]; exact hlt
    obtain ⟨b, o, rfl, hbl, hc⟩ := HR.out.at_ (by rw [rows_length]; simp only [Cellful.s]; omega)
    have hcr : ∀ j v, (rows l)[j]? = some v -> wr.cell? ⟨b, o + j, none⟩ = some v := fun j v hj => by
     rw [hb.cell (p := ⟨b, o + j, none⟩) hbl]; exact hc j v hj
    have HC := Zd hc
    clear hc
    have hmem : l.getD k Resr.none ∈ l := by simp [hkl]
    generalize hx : l.getD k Resr.none = x at hmem
    obtain ⟨c0, c1, c2, c3⟩ := rsr_cells hcr hkl hx
    have HX := Zd hx
    clear hx hkl hcr
    have hcall := HP.out x hmem wr hb
    have HCALL := Zd hcall
    clear hcall hmem
    have hrun := hf (#[rsV x] ++ caps) wr
    unfold rsV at hrun
    by_cases hpx : p x = true
    . go_wp2_with (first | (refine HCALL.out.mono ?_; rintro e w1 ⟨rfl, hb1⟩))
      go_ret
      exact ⟨ret_int (by rw [firstV_hit Resr.none l 0 k (by rw [HN.out]; exact hlt) HNO.out (by rw [HX.out]; exact hpx)]; simp), hb.trans (hb1.mono hb.size)⟩
    . simp only [Bool.not_eq_true] at hpx
      go_wp2_with (first | (refine HCALL.out.mono ?_; rintro e w1 ⟨rfl, hb1⟩))
      go_roundw
      case rel =>
       refine ⟨k + 1, by omega, by go_num, hb.trans (hb1.mono hb.size), fun j hj => ?_⟩
       by_cases hjk : j = k
       . subst hjk; rw [HX.out]; exact hpx
       . exact HNO.out j (by omega)
      case measure => simp [intOf]; omega
  . go_wp2
    go_ret
    refine ⟨ret_int ?_, hb⟩
    rw [firstV_none l 0 (fun x hx => ?_)]
    obtain ⟨j, hj, rfl⟩ := List.getElem_of_mem hx
    have := HNO.out j (by have := HN.out; omega)
    simpa [List.getD, hj] using this
theorem HasRs_any (A : Option Addr) (c : Nat) (l : List Resr) (f : FuncId) (caps : Array Value) (p : Resr -> Bool) (w : World) (hl : l.length <= maxLen)
  (hR : Rd w A (rows l)) (hf : Enters f) (hp : AsksV rsV w f caps p l) :
  Calls Tryz.prog 141 #[.slice A l.length c, .func (.func f) #[] caps] w fun e w' => e = .returned (.bool (l.any p)) /\ Below w.heap.size w w' := by
 have HI := Zd (IndexRs_any A c l f caps p w hl hR hf hp)
 have hlo := firstV_lo (p := p) l 0
 have HL := Zd hlo
 clear hR hp hf hl hlo
 by_cases h : 0 <= firstV p l 0
 all_goals
  go_enter Tryz.func141, Tryz.ntmps141
  go_wp2_with (first | (refine HI.out.mono ?_; rintro e w1 ⟨rfl, hb1⟩))
  go_ret
  refine ⟨ret_bool ?_, hb1⟩
  have e := HL.out.2
  first | exact (e.1 h).symm | (rw [Bool.eq_iff_iff, decide_eq_true_iff]; exact e) | (rw [eq_comm, Bool.eq_false_iff]; exact fun h' => h (e.2 h'))
theorem pfits32 (n : Int) (w : World) : Calls Tryz.prog 87 #[.int .i64 n, .int .i64 32] w fun e w' => e = .returned (.bool (inB n 0 4294967295)) /\ w = w' := by
 unfold inB
 by_cases h1 : 0 <= n <;> by_cases h2 : n < 4294967296
 all_goals
  go_enter Tryz.func87, Tryz.ntmps87
  go_wp2
  go_ret
  refine ⟨ret_bool ?_, rfl⟩
  first | (simp [h1]; done) | (simp [h1]; omega) | grind
theorem pfits16 (n : Int) (w : World) : Calls Tryz.prog 87 #[.int .i64 n, .int .i64 16] w fun e w' => e = .returned (.bool (inB n 0 65535)) /\ w = w' := by
 unfold inB
 by_cases h1 : 0 <= n <;> by_cases h2 : n < 65536
 all_goals
  go_enter Tryz.func87, Tryz.ntmps87
  go_wp2
  go_ret
  refine ⟨ret_bool ?_, rfl⟩
  first | (simp [h1]; done) | (simp [h1]; omega) | grind
theorem pfits8 (n : Int) (w : World) : Calls Tryz.prog 87 #[.int .i64 n, .int .i64 8] w fun e w' => e = .returned (.bool (inB n 0 255)) /\ w = w' := by
 unfold inB
 by_cases h1 : 0 <= n <;> by_cases h2 : n < 256
 all_goals
  go_enter Tryz.func87, Tryz.ntmps87
  go_wp2
  go_ret
  refine ⟨ret_bool ?_, rfl⟩
  first | (simp [h1]; done) | (simp [h1]; omega) | grind
theorem pfits4 (n : Int) (w : World) : Calls Tryz.prog 87 #[.int .i64 n, .int .i64 4] w fun e w' => e = .returned (.bool (inB n 0 15)) /\ w = w' := by
 unfold inB
 by_cases h1 : 0 <= n <;> by_cases h2 : n < 16
 all_goals
  go_enter Tryz.func87, Tryz.ntmps87
  go_wp2
  go_ret
  refine ⟨ret_bool ?_, rfl⟩
  first | (simp [h1]; done) | (simp [h1]; omega) | grind
theorem in_two (n a b : Int) : inB n a b = (decide (a <= n) && decide (n <= b)) := rfl
theorem pGood_any (r : Resr) (w : World) : Calls Tryz.prog 143 #[rsV r] w fun e w' => e = .returned (.bool (goodR r)) /\ Below w.heap.size w w' := by
 have HG : Hid (goodR r = (inB r.value 0 4294967295 && inB r.code 0 255 && inB r.case_ 0 15 && (decide (0 <= r.seq) && decide (r.seq <= 1048575)))) := Zd (by unfold goodR; rw [in_two r.seq 0 1048575])
 unfold rsV
 go_enter Tryz.func143, Tryz.ntmps143
 go_wp2_with (go_at_call 87; first | (with_reducible refine (pfits32 _ _).mono ?_; rintro e w' ⟨rfl, rfl⟩) | (with_reducible refine (pfits8 _ _).mono ?_; rintro e w' ⟨rfl, rfl⟩) | (with_reducible refine (pfits4 _ _).mono ?_; rintro e w' ⟨rfl, rfl⟩))
 all_goals
  go_ret
  refine ⟨ret_bool ?_, (Below.refl _ _).alloc (Nat.le_refl _) _⟩
  rw [HG.out]
  first | (simp [*]; done) | (simp [*]; omega) | grind
theorem kdone1_any (r : Resr) (w : World) : Calls Tryz.prog 142 #[rsV r] w fun e w' => e = .returned (.bool (!goodR r)) /\ Below w.heap.size w w' := by
 have HC := Zd (fun W => pGood_any r W)
 unfold rsV at HC ⊢
 go_enter Tryz.func142, Tryz.ntmps142
 go_wp2_with (refine (HC.out _).mono ?_; rintro e w1 ⟨rfl, hb1⟩)
 go_ret
 exact ⟨rfl, ((Below.refl _ _).alloc (Nat.le_refl _) _).trans (hb1.mono (by simp))⟩
theorem kdone1_enters : Enters 142 := enters_of Tryz.func142 (by kernel_rfl) (by kernel_rfl)
theorem any_not_all {α : Type} (p : α -> Bool) (l : List α) : (!l.any fun x => !p x) = l.all p := by
 induction l with
 | nil => rfl
 | cons a l ih => simp only [List.any_cons, List.all_cons, Bool.not_or, Bool.not_not, ih]
theorem kdone_any (A : Option Addr) (c : Nat) (l : List Resr) (th : Int) (w : World) (hl : l.length <= 1048576) (hR : Rd w A (rows l)) :
  Calls Tryz.prog 108 #[.slice A l.length c, .int .i64 th] w fun e w' => e = .returned (.bool (dnsB l th)) /\ Below w.heap.size w w' := by
 have HC := Zd (HasRs_any A c l 142 #[] (fun r => !goodR r) w (by unfold maxLen; omega) hR kdone1_enters (fun x _ w' _ => kdone1_any x w'))
 have HV : Hid (dnsB l th = (decide ((l.length : Int) = th) && !(l.any fun x => !goodR x))) := Zd (by rw [any_not_all]; rfl)
 clear hR
 generalize l.length = n at *
 generalize (l.any fun x => !goodR x) = a at *
 generalize dnsB l th = R at *
 by_cases h : (n : Int) = th
 all_goals
  go_enter Tryz.func108, Tryz.ntmps108
  go_wp2_with (refine HC.out.mono ?_; rintro e w1 ⟨rfl, hb1⟩)
  go_ret
  refine ⟨ret_bool ?_, by first | exact hb1 | exact Below.refl _ _⟩
  rw [HV.out]
  first | (simp [h]; done) | (simp; omega) | grind
theorem kvalues1_any (n : Int) (w : World) : Calls Tryz.prog 146 #[.int .i64 n] w fun e w' => e = .returned (.bool (!inB n 0 4294967295)) /\ Below w.heap.size w w' := by
 have HC := Zd (fun W => in_any n 0 4294967295 W)
 go_enter Tryz.func146, Tryz.ntmps146
 go_wp2_with (refine (HC.out _).mono ?_; rintro e w1 ⟨rfl, rfl⟩)
 go_ret
 exact ⟨rfl, Below.refl _ _⟩
theorem kvalues1_enters : Enters 146 := enters_of Tryz.func146 (by kernel_rfl) (by kernel_rfl)
theorem kvalues_any (A : Option Addr) (c : Nat) (l : List Int) (most : Int) (w : World) (hl : l.length <= 1048576) (hR : Rd w A (ints l)) :
  Calls Tryz.prog 116 #[.slice A l.length c, .int .i64 most] w fun e w' => e = .returned (.bool (valuesB l most)) /\ Below w.heap.size w w' := by
 have HC := Zd (ContainsFunc_any A c l 146 #[] (fun x => !inB x 0 4294967295) w (by unfold maxLen; omega) hR kvalues1_enters (fun x _ w' _ => kvalues1_any x w'))
 have HV : Hid (valuesB l most = (decide ((l.length : Int) <= most) && !(l.any fun x => !inB x 0 4294967295))) := Zd (by rw [any_not_all (fun x => inB x 0 4294967295)]; rfl)
 clear hR
 generalize l.length = n at *
 generalize (l.any fun x => !inB x 0 4294967295) = a at *
 generalize valuesB l most = R at *
 by_cases h : (n : Int) <= most
 all_goals
  go_enter Tryz.func116, Tryz.ntmps116
  go_wp2_with (refine HC.out.mono ?_; rintro e w1 ⟨rfl, hb1⟩)
  go_ret
  refine ⟨ret_bool ?_, by first | exact hb1 | exact Below.refl _ _⟩
  rw [HV.out]
  first | (simp [h]; done) | (simp; omega) | grind
theorem startC_fit {c : Cfg} (hc : chkB c = true) : FitC c ⟨c.cap, [], List.replicate (clampI c.threads 64) Resr.none⟩ := by
 have hb := chk_cap hc
 refine ⟨rfl, by simp; omega, by simp, ?_, fun r hr => ?_⟩
 . simp only [List.length_replicate, clampI]; omega
 . rw [List.eq_of_mem_replicate hr]; decide
theorem and32 (u : Nat) (h : u < 18446744073709551616) : bits BinOp.and IntKind.u64 (u : Int) 4294967295 = (u : Int) % 4294967296 := by
 have h1 := bits_and_u64_nat u 4294967295 h (by decide)
 have h2 : u &&& 4294967295 = u % 4294967296 := by
  have := Nat.and_two_pow_sub_one_eq_mod u 32
  simpa using this
 rw [h2] at h1
 exact h1.trans (by omega)
theorem or_parts (a b P : Int) (k : Nat) (hP : P = ((2 ^ k : Nat) : Int)) (ha : 0 <= a) (h0 : 0 <= b) (hb : b < P) (h : a * P + b < 18446744073709551616) : bits BinOp.or IntKind.u64 (a * P) b = a * P + b := by
 obtain ⟨x, rfl⟩ : ∃ n : Nat, a = n := ⟨a.toNat, by omega⟩
 obtain ⟨y, rfl⟩ : ∃ n : Nat, b = n := ⟨b.toNat, by omega⟩
 subst hP
 rw [<- Int.natCast_mul] at h ⊢
 have hxy : x * 2 ^ k + y < 18446744073709551616 := by omega
 have hy : y < 2 ^ k := by omega
 rw [bits_or_u64_nat _ _ (by omega) (by omega)]
 have : x * 2 ^ k ||| y = x * 2 ^ k + y := by
  rw [Nat.mul_comm]
  exact (Nat.two_pow_add_eq_or_of_lt hy x).symm
 rw [this, Int.natCast_add]
theorem res_parts {r : Resr} (h : goodR r = true) :
  bits BinOp.or IntKind.u64 (r.seq * 17592186044416) (r.case_ * 1099511627776) = r.seq * 17592186044416 + r.case_ * 1099511627776 /\
  bits BinOp.or IntKind.u64 (r.seq * 17592186044416 + r.case_ * 1099511627776) (r.code * 4294967296) = r.seq * 17592186044416 + r.case_ * 1099511627776 + r.code * 4294967296 /\
  bits BinOp.or IntKind.u64 (r.seq * 17592186044416 + r.case_ * 1099511627776 + r.code * 4294967296) r.value = resI r := by
 have hg := h
 simp only [goodR, inB, Bool.and_eq_true, decide_eq_true_eq] at h
 obtain ⟨s, k, c, v⟩ := r
 simp only at h
 obtain ⟨⟨⟨⟨v0, v1⟩, c0, c1⟩, k0, k1⟩, s0, s1⟩ := h
 have h1 := or_parts s (k * 1099511627776) 17592186044416 44 (by decide +kernel) s0 (by omega) (by omega) (by omega)
 have h2 := or_parts (s * 16 + k) (c * 4294967296) 1099511627776 40 (by decide +kernel) (by omega) (by omega) (by omega) (by omega)
 have h3 := or_parts ((s * 16 + k) * 256 + c) v 4294967296 32 (by decide +kernel) (by omega) v0 (by omega) (by omega)
 have e2 : (s * 16 + k) * 1099511627776 = s * 17592186044416 + k * 1099511627776 := by omega
 have e3 : ((s * 16 + k) * 256 + c) * 4294967296 = s * 17592186044416 + k * 1099511627776 + c * 4294967296 := by omega
 rw [e2] at h2
 rw [e3] at h3
 simp only [resI, hg, if_true]
 exact ⟨h1, h2, h3⟩
theorem pResult_any (r : Resr) (w : World) : Calls Tryz.prog 115 #[rsV r] w fun e w' => e = .returned (.int .u64 (resI r)) /\ Below w.heap.size w w' := by
 have HC := Zd (fun W => pGood_any r W)
 have HB0 := Zd ((Below.refl w.heap.size w).alloc (Nat.le_refl _) (.cells #[.int .i64 r.seq, .int .i64 r.case_, .int .i64 r.code, .int .i64 r.value] 42))
 cases hg : goodR r
 . have HV : Hid (resI r = 0) := Zd (by simp [resI, hg])
   rw [hg] at HC
   unfold rsV at HC ⊢
   go_enter Tryz.func115, Tryz.ntmps115
   go_wp2_with (refine (HC.out _).mono ?_; rintro e w1 ⟨rfl, hb1⟩)
   go_ret
   exact ⟨by rw [HV.out]; rfl, HB0.out.trans (hb1.mono HB0.out.size)⟩
 . obtain ⟨o1, o2, o3⟩ := res_parts hg
   rw [hg] at HC
   have hr := hg
   simp only [goodR, inB, Bool.and_eq_true, decide_eq_true_eq] at hr
   obtain ⟨⟨⟨⟨v0, v1⟩, c0, c1⟩, k0, k1⟩, s0, s1⟩ := hr
   generalize resI r = R at *
   clear hg
   unfold rsV at HC ⊢
   go_enter Tryz.func115, Tryz.ntmps115
   go_wp2_with (refine (HC.out _).mono ?_; rintro e w1 ⟨rfl, hb1⟩; have hk := fun o => hb1.cell (p := ⟨w.heap.size, o, none⟩) (by simp); have HB1 := Zd (btr HB0.out hb1); clear hb1)
   go_ret
   exact ⟨rfl, HB1.out⟩
theorem wordsApp (a b : List Int) : words a ++ words b = words (a ++ b) := by simp [words]
theorem rowI_succ (l : List Int) (k : Nat) : rowI l (k + 1) = rowI l k ++ [if k < l.length then l.getD k 0 else 0] := by
 unfold rowI
 rw [List.range_succ, List.map_append]
 rfl
def RetMore (base m : Nat) (xs : List Int) (w : World) (e : Ending) (w' : World) : Prop :=
 ∃ A c, e = .returned (.slice A m c) /\ w'.ownsRow base 95 1 (.slice A m c) m (words xs) /\ Below base w w'
theorem krow_any (base : Nat) (A : Option Addr) (m c : Nat) (xs : List Int) (B : Option Addr) (d : Nat) (l : List Int) (n : Nat) (w : World) (hb : base <= w.heap.size) (hown : w.ownsRow base 95 1 (.slice A m c) m (words xs))
  (hl : l.length <= 1048576) (hv : ∀ v ∈ l, inB v 0 4294967295 = true) (hn : n <= 4096) (hm : m <= 4096) (hR : ∀ w', Below base w w' -> Rd w' B (ints l)) :
  Calls Tryz.prog 74 #[.slice A m c, .slice B l.length d, .int .i64 n] w (RetMore base (m + n) (xs ++ rowI l n) w) := by
 have HR := Zd hR
 have HV := Zd hv
 have HS := Zd hb
 clear hR hv hb
 generalize hll : l.length = ll at *
 have HL := Zd hll
 clear hll
 go_enter Tryz.func74, Tryz.ntmps74
 go_wp2_with fail
 go_loopg [0, 10] n (fun g out i wr => ∃ (k : Nat) (A1 : Option Addr) (c1 : Nat), k <= n /\ g = n - k /\ i = .int .i64 k /\ out = .slice A1 (m + k) c1 /\ wr.ownsRow base 95 1 (.slice A1 (m + k) c1) (m + k) (words (xs ++ rowI l k)) /\ Below base w wr)
 case atStart => exact ⟨0, A, c, Nat.zero_le _, rfl, rfl, rfl, by simpa [rowI] using hown, Below.refl _ _⟩
 case round =>
  obtain ⟨k, A1, c1, hk, hg, rfl, rfl, how, hb⟩ := hrel
  have HG := Zd hg
  have HB := Zd hb
  have HO := Zd how
  have HSZ := Zd (Nat.le_trans HS.out hb.size)
  clear hg hb how hown
  have HRW := Zd (rowI_succ l k)
  by_cases hlt : k < n
  . by_cases hlk : k < ll
    . obtain ⟨b, o, rfl, hbl, hc⟩ := (HR.out _ HB.out).at_ (by rw [ints_length]; have := HL.out; omega)
      have hcell : wr.cell? ⟨b, o + k, none⟩ = some (.int .i64 (l.getD k 0)) := hc k _ (ints_at (by have := HL.out; omega))
      have hv := HV.out (l.getD k 0) (getD_mem (by have := HL.out; omega))
      rw [if_pos (by have := HL.out; omega)] at HRW
      generalize l.getD k 0 = x at *
      simp only [inB, Bool.and_eq_true, decide_eq_true_eq] at hv
      obtain ⟨v0, v1⟩ := hv
      clear hc
      go_wp2_with (at_builtin; refine wpList_app rfl (.tmp 22) (.tmp 24) 53 95 rfl base (.int .u64 0) 1 8 Tryz.underlying53 CloneW_info rfl (by decide) A1 (m + k) c1 _ rfl (HO.out.alloc _) (some ⟨wr.heap.size, 0, none⟩) 1 1 (words [x]) rfl (by simp) rfl (blk_new rfl).rd (words_one _) (m + (k + 1)) (by omega) (words (xs ++ rowI l (k + 1))) (by rw [HRW.out, wordsApp, List.append_assoc]) (by unfold maxLen; omega) (by omega) (Nat.le_trans HSZ.out (by simp)) ?_; intro A2 c2 w2 hown2 hg2 hb2)
      go_roundg (n - (k + 1))
      case measure => rw [HG.out]; omega
      case rel => exact ⟨k + 1, A2, c2, by omega, rfl, by go_num, rfl, hown2, (HB.out.alloc HSZ.out _).trans hb2⟩
    . rw [if_neg (by have := HL.out; omega)] at HRW
      go_wp2_with (at_builtin; refine wpList_app rfl (.tmp 22) (.tmp 24) 53 95 rfl base (.int .u64 0) 1 8 Tryz.underlying53 CloneW_info rfl (by decide) A1 (m + k) c1 _ rfl (HO.out.alloc _) (some ⟨wr.heap.size, 0, none⟩) 1 1 (words [0]) rfl (by simp) rfl (blk_new rfl).rd (words_one _) (m + (k + 1)) (by omega) (words (xs ++ rowI l (k + 1))) (by rw [HRW.out, wordsApp, List.append_assoc]) (by unfold maxLen; omega) (by omega) (Nat.le_trans HSZ.out (by simp)) ?_; intro A2 c2 w2 hown2 hg2 hb2)
      go_roundg (n - (k + 1))
      case measure => rw [HG.out]; omega
      case rel => exact ⟨k + 1, A2, c2, by omega, rfl, by go_num, rfl, hown2, (HB.out.alloc HSZ.out _).trans hb2⟩
  . obtain rfl : k = n := by omega
    go_wp2_with fail
    go_ret
    exact ⟨A1, c1, rfl, HO.out, HB.out⟩
theorem kresults_any (base : Nat) (A : Option Addr) (m c : Nat) (xs : List Int) (B : Option Addr) (d : Nat) (l : List Resr) (w : World) (hb : base <= w.heap.size) (hown : w.ownsRow base 95 1 (.slice A m c) m (words xs))
  (hl : l.length <= 4096) (hm : m <= 4096) (hR : ∀ w', Below base w w' -> Rd w' B (rows l)) :
  Calls Tryz.prog 78 #[.slice A m c, .slice B l.length d] w (RetMore base (m + l.length) (xs ++ l.map resI) w) := by
 have HR := Zd hR
 have HS := Zd hb
 clear hR hb
 have HLM : Hid (∀ k, k < l.length -> (l.take (k + 1)).map resI = (l.take k).map resI ++ [resI (l.getD k Resr.none)]) := Zd (fun k hk => by
  rw [List.take_succ_eq_append_getElem hk, List.map_append]
  simp [List.getD, hk])
 have HLT : Hid (l.take l.length = l) := Zd (List.take_length)
 generalize hll : l.length = n at *
 have HL := Zd hll
 clear hll
 go_enter Tryz.func78, Tryz.ntmps78
 go_wp2_with fail
 go_loopg [0, 9] n (fun g out i wr => ∃ (k : Nat) (A1 : Option Addr) (c1 : Nat), k <= n /\ g = n - k /\ i = .int .i64 k /\ out = .slice A1 (m + k) c1 /\ wr.ownsRow base 95 1 (.slice A1 (m + k) c1) (m + k) (words (xs ++ (l.take k).map resI)) /\ Below base w wr)
 case atStart => exact ⟨0, A, c, Nat.zero_le _, rfl, rfl, rfl, by simpa using hown, Below.refl _ _⟩
 case round =>
  obtain ⟨k, A1, c1, hk, hg, rfl, rfl, how, hb⟩ := hrel
  have HG := Zd hg
  have HB := Zd hb
  have HO := Zd how
  have HSZ := Zd (Nat.le_trans HS.out hb.size)
  clear hg hb how hown
  by_cases hlt : k < n
  . obtain ⟨b, o, rfl, hbl, hc⟩ := (HR.out _ HB.out).at_ (by rw [rows_length]; simp only [Cellful.s]; have := HL.out; omega)
    have HRW := Zd (HLM.out k hlt)
    obtain ⟨x0, x1, x2, x3⟩ := rsr_cells (k := k) (x := l.getD k Resr.none) hc (by have := HL.out; omega) rfl
    have HC := Zd (fun W => pResult_any (l.getD k Resr.none) W)
    generalize l.getD k Resr.none = x at *
    unfold rsV at HC
    clear hc
    go_wp2_with (first
     | (refine (HC.out _).mono ?_; rintro er w1 ⟨rfl, hb1⟩; have HW1 := Zd (((Below.refl wr.heap.size wr).alloc (Nat.le_refl _) _).trans (hb1.mono (by simp))); clear hb1)
     | (at_builtin; refine wpList_app rfl (.tmp 13) (.tmp 16) 53 95 rfl base (.int .u64 0) 1 8 Tryz.underlying53 CloneW_info rfl (by decide) A1 (m + k) c1 _ rfl ((own_below HO.out HW1.out).alloc _) (some ⟨w1.heap.size, 0, none⟩) 1 1 (words [resI x]) rfl (by simp) rfl (blk_new rfl).rd (words_one _) (m + (k + 1)) (by omega) (words (xs ++ (l.take (k + 1)).map resI)) (by rw [HRW.out, wordsApp, List.append_assoc]) (by unfold maxLen; omega) (by omega) (Nat.le_trans HSZ.out (Nat.le_trans HW1.out.size (by simp))) ?_; intro A2 c2 w2 hown2 hg2 hb2))
    go_roundg (n - (k + 1))
    case measure => rw [HG.out]; omega
    case rel => exact ⟨k + 1, A2, c2, by omega, rfl, by go_num, rfl, hown2, ((HB.out.trans (HW1.out.mono HSZ.out)).alloc (Nat.le_trans HSZ.out HW1.out.size) _).trans hb2⟩
  . obtain rfl : k = n := by omega
    go_wp2_with fail
    go_ret
    exact ⟨A1, c1, rfl, by have := HO.out; rw [HLT.out] at this; exact this, HB.out⟩
structure Clr where
 (cap : Int)
 (LA : Option Addr)
 (lc : Nat)
 (list : List Int)
 (DA : Option Addr)
 (dc : Nat)
 (done : List Resr)
def Clr.p (x : Clr) : CellsP := ⟨x.cap, x.list, x.done⟩
abbrev clrV (x : Clr) : Value := .agg #[.int .i64 x.cap, .slice x.LA x.list.length x.lc, .slice x.DA x.done.length x.dc]
def Clr.cells (x : Clr) : List Value := [.int .i64 x.cap, .slice x.LA x.list.length x.lc, .slice x.DA x.done.length x.dc]
structure ClrAt (w : World) (x : Clr) : Prop where
 rl : Rd w x.LA (ints x.list)
 rd : Rd w x.DA (rows x.done)
 fl : x.list.length <= 1048576
 fd : x.done.length <= 4096
theorem ClrAt.below {w w' : World} {x : Clr} (h : ClrAt w x) (hb : Below w.heap.size w w') : ClrAt w' x := ⟨h.rl.below hb, h.rd.below hb, h.fl, h.fd⟩
theorem below_two (w : World) (o o' : Obj) : Below w.heap.size w ((w.alloc o).alloc o') := ((Below.refl w.heap.size w).alloc (Nat.le_refl _) o).alloc (by simp) o'
theorem kFitsC_any (c : Cfg) (x : Clr) (w : World) (hc : CfgIn w c) (hx : ClrAt w x) :
  Calls Tryz.prog 79 #[cfgV c, clrV x] w fun e w' => e = .returned (.bool (fitsC c x.p)) /\ Below w.heap.size w w' := by
 obtain ⟨cap, LA, lc, li, DA, dc, dn⟩ := x
 have HV : Hid (fitsC c (Clr.p ⟨cap, LA, lc, li, DA, dc, dn⟩) = (chkB c && !decide (c.kind = 3) && decide (cap = c.cap) && valuesB li c.cap && dnsB dn c.threads)) := Zd rfl
 generalize fitsC c (Clr.p ⟨cap, LA, lc, li, DA, dc, dn⟩) = R at *
 have HVA := Zd (fun W (hb : Below w.heap.size w W) => kvalues_any LA lc li c.cap W hx.fl (hx.rl.below hb))
 have HDN := Zd (fun W (hb : Below w.heap.size w W) => kdone_any DA dc dn c.threads W (Nat.le_trans hx.fd (by decide)) (hx.rd.below hb))
 clear hx
 unfold clrV
 simp only
 generalize li.length = ll at *
 generalize dn.length = dl at *
 generalize valuesB li c.cap = v at *
 generalize dnsB dn c.threads = d at *
 obtain ⟨f0, f1, f2, f3, f4, f5, f6, f7, f8, f9, f10⟩ := (BoxC.new w c).all
 have HBX := Zd (below_two w (.cells #[.int .i64 c.kind, .int .i64 c.threads, .int .i64 c.chans, .int .i64 c.cap, .int .i64 c.nodes, .int .i64 c.retire, .int .i64 c.patience, .int .i64 c.tags, .int .i64 c.seqs, .int .i64 c.gens, .slice c.sa c.start.length c.sc] 24) (.cells #[.int .i64 cap, .slice LA ll lc, .slice DA dl dc] 91))
 cases hk : chkB c
 . have HCK := Zd (fun W (hb : Below w.heap.size w W) => Check_no c W (hc.below hb) hk)
   rw [hk] at HV
   unfold cfgV at HCK ⊢
   clear hc hk
   go_enter Tryz.func79, Tryz.ntmps79
   go_wp2_with (first
    | (refine (HCK.out _ HBX.out).mono ?_; rintro er w1 ⟨rfl, hb1⟩; have HB1 := Zd (btr HBX.out hb1); clear hb1))
   go_ret
   exact ⟨ret_bool (by rw [HV.out]; rfl), HB1.out⟩
 . have HCK := Zd (fun W (hb : Below w.heap.size w W) => Check_ok c W (hc.below hb) hk)
   rw [hk] at HV
   unfold cfgV at HCK ⊢
   clear hc hk
   go_enter Tryz.func79, Tryz.ntmps79
   go_wp2_with (first
    | (refine (HCK.out _ HBX.out).mono ?_; rintro er w1 ⟨rfl, hb1⟩; have hk1 := fun o => hb1.cell (p := ⟨w.heap.size, o, none⟩) (by simp; omega); have hk2 := fun o => hb1.cell (p := ⟨w.heap.size + 1, o, none⟩) (by simp); have HA1 := Zd hb1; have HB1 := Zd (btr HBX.out hb1); clear hb1)
    | (refine (HVA.out _ HB1.out).mono ?_; rintro er w2 ⟨rfl, hb2⟩; have HA2 := Zd (btr HA1.out hb2); have HB2 := Zd (btr HB1.out hb2); clear hk1 hk2 hb2; have hk1 := fun o => HA2.out.cell (p := ⟨w.heap.size, o, none⟩) (by simp; omega); have hk2 := fun o => HA2.out.cell (p := ⟨w.heap.size + 1, o, none⟩) (by simp))
    | (refine (HDN.out _ HB2.out).mono ?_; rintro er w3 ⟨rfl, hb3⟩; have HB3 := Zd (btr HB2.out hb3); clear hb3))
   all_goals
    go_ret
    refine ⟨ret_bool ?_, by first | exact HB3.out | exact HB2.out | exact HB1.out⟩
    rw [HV.out]
    simp [*]
theorem krow_int (base : Nat) (A : Option Addr) (m c : Nat) (xs : List Int) (B : Option Addr) (d ll : Nat) (l : List Int) (n : Int) (w : World) (hll : l.length = ll) (hb : base <= w.heap.size) (hown : w.ownsRow base 95 1 (.slice A m c) m (words xs))
  (hl : ll <= 1048576) (hv : ∀ v ∈ l, inB v 0 4294967295 = true) (h0 : 0 <= n) (hn : n <= 4096) (hm : m <= 4096) (hR : ∀ w', Below base w w' -> Rd w' B (ints l)) :
  Calls Tryz.prog 74 #[.slice A m c, .slice B ll d, .int .i64 n] w (RetMore base (m + n.toNat) (xs ++ rowI l n.toNat) w) := by
 subst hll
 obtain ⟨k, rfl⟩ : ∃ k : Nat, n = k := ⟨n.toNat, by omega⟩
 rw [Int.toNat_natCast]
 exact krow_any base A m c xs B d l k w hb hown hl hv (by omega) hm hR
theorem kresults_int (base : Nat) (A : Option Addr) (m c : Nat) (xs : List Int) (B : Option Addr) (d ll : Nat) (l : List Resr) (w : World) (hll : l.length = ll) (hb : base <= w.heap.size) (hown : w.ownsRow base 95 1 (.slice A m c) m (words xs))
  (hl : ll <= 4096) (hm : m <= 4096) (hR : ∀ w', Below base w w' -> Rd w' B (rows l)) :
  Calls Tryz.prog 78 #[.slice A m c, .slice B ll d] w (RetMore base (m + ll) (xs ++ l.map resI) w) := by
 subst hll
 exact kresults_any base A m c xs B d l w hb hown hl hm hR
def RetWords (xs : List Int) (w : World) (e : Ending) (w' : World) : Prop := RetMore w.heap.size xs.length xs w e w'
theorem kPutC_any (c : Cfg) (x : Clr) (w : World) (hc : CfgIn w c) (hx : ClrAt w x) :
  Calls Tryz.prog 39 #[cfgV c, clrV x] w (RetWords (putC c x.p) w) := by
 have HFC := Zd (fun W (hb : Below w.heap.size w W) => kFitsC_any c x W (hc.below hb) (hx.below hb))
 cases hf : fitsC c x.p
 . have HV : Hid (putC c x.p = []) := Zd (by simp [putC, hf])
   rw [hf] at HFC
   clear hc hx hf
   generalize putC c x.p = R at *
   obtain ⟨cap, LA, lc, li, DA, dc, dn⟩ := x
   unfold clrV cfgV at HFC ⊢
   simp only at HFC ⊢
   have HBX := Zd (below_two w (.cells #[.int .i64 c.kind, .int .i64 c.threads, .int .i64 c.chans, .int .i64 c.cap, .int .i64 c.nodes, .int .i64 c.retire, .int .i64 c.patience, .int .i64 c.tags, .int .i64 c.seqs, .int .i64 c.gens, .slice c.sa c.start.length c.sc] 24) (.cells #[.int .i64 cap, .slice LA li.length lc, .slice DA dn.length dc] 91))
   go_enter Tryz.func39, Tryz.ntmps39
   go_wp2_with (first
    | (refine (HFC.out _ HBX.out).mono ?_; rintro er w1 ⟨rfl, hb1⟩; have HB1 := Zd (btr HBX.out hb1); clear hb1))
   go_ret
   refine ⟨none, 0, by rw [HV.out]; rfl, by rw [HV.out]; exact own_nil _ _ _ _, HB1.out⟩
 . have HV : Hid (putC c x.p = cellsI c.cap x.p) := Zd (by simp [putC, hf])
   have hck : chkB c = true := by
    simp only [fitsC, Bool.and_eq_true] at hf
    exact hf.1.1.1.1
   have hk3 : ¬ c.kind = 3 := by
    simp only [fitsC, Bool.and_eq_true, Bool.not_eq_true', decide_eq_false_iff_not] at hf
    exact hf.1.1.1.2
   have hft := (fitsC_iff hck hk3).1 hf
   have hcap := chk_cap hck
   have hL : x.list.length + x.done.length <= 128 := by
    have h1 := hft.few; have h2 := hft.ndn
    have e2 : x.p.list.length = x.list.length := rfl
    have e3 : x.p.done.length = x.done.length := rfl
    omega
   have hval : ∀ v ∈ x.list, inB v 0 4294967295 = true := hft.vals
   have hLN : (cellsI c.cap x.p).length = 1 + c.cap.toNat + x.done.length := cellsI_len c.cap x.p
   have hE : cellsI c.cap x.p = [(x.list.length : Int)] ++ rowI x.list c.cap.toNat ++ x.done.map resI := rfl
   obtain ⟨c0, c1, _⟩ := hcap
   rw [hf] at HFC
   rw [HV.out]
   rw [hE] at hLN ⊢
   have HLN := Zd hLN
   clear hf hck hk3 hft hE hLN HV
   have HRO := Zd (fun base W A1 d1 (hb : Below w.heap.size w W) (hB : base <= W.heap.size) (hB2 : w.heap.size <= base) (hown : W.ownsRow base 95 1 (.slice A1 1 d1) 1 (words [(x.list.length : Int)])) =>
    krow_int base A1 1 d1 [(x.list.length : Int)] x.LA x.lc x.list.length x.list c.cap W rfl hB hown (by omega) hval c0 (by omega) (by omega) (fun w' hw' => hx.rl.below (hb.trans (hw'.mono hB2))))
   have HRE := Zd (fun base W A1 d1 (hb : Below w.heap.size w W) (hB : base <= W.heap.size) (hB2 : w.heap.size <= base) (hown : W.ownsRow base 95 1 (.slice A1 (1 + c.cap.toNat) d1) (1 + c.cap.toNat) (words ([(x.list.length : Int)] ++ rowI x.list c.cap.toNat))) =>
    kresults_int base A1 (1 + c.cap.toNat) d1 ([(x.list.length : Int)] ++ rowI x.list c.cap.toNat) x.DA x.dc x.done.length x.done W rfl hB hown (by omega) (by omega) (fun w' hw' => hx.rd.below (hb.trans (hw'.mono hB2))))
   clear hval hx hc
   obtain ⟨cap, LA, lc, li, DA, dc, dn⟩ := x
   simp only at HRO HRE HLN hL ⊢
   unfold clrV cfgV at HFC ⊢
   simp only at HFC ⊢
   generalize hll : li.length = ll at *
   generalize hdl : dn.length = dl at *
   have HLL := Zd hll
   clear hll hdl
   have ll0 : ll <= 128 := by omega
   have hwr : IntKind.u64.wrap (ll : Int) = (ll : Int) := IntWalk.u64_in _ (by omega)
   obtain ⟨f0, f1, f2, f3, f4, f5, f6, f7, f8, f9, f10⟩ := (BoxC.new w c).all
   have HBX := Zd (below_two w (.cells #[.int .i64 c.kind, .int .i64 c.threads, .int .i64 c.chans, .int .i64 c.cap, .int .i64 c.nodes, .int .i64 c.retire, .int .i64 c.patience, .int .i64 c.tags, .int .i64 c.seqs, .int .i64 c.gens, .slice c.sa c.start.length c.sc] 24) (.cells #[.int .i64 cap, .slice LA ll lc, .slice DA dl dc] 91))
   generalize c.cap.toNat = cn at *
   generalize [(ll : Int)] ++ rowI li cn ++ dn.map resI = Z at *
   go_enter Tryz.func39, Tryz.ntmps39
   go_wp2_with (first
    | (refine (HFC.out _ HBX.out).mono ?_; rintro er w1 ⟨rfl, hb1⟩; have HA1 := Zd hb1; have HB1 := Zd (btr HBX.out hb1); clear hb1))
   have x3 : w1.cell? ⟨w.heap.size, 3, none⟩ = some (.int .i64 c.cap) := by rw [HA1.out.cell (p := ⟨w.heap.size, 3, none⟩) (by simp; omega), World.cell?_alloc_lt _ _ _ (by simp)]; exact f3
   have x8 : w1.cell? ⟨w.heap.size + 1, 1, none⟩ = some (.slice LA ll lc) := by rw [HA1.out.cell (p := ⟨w.heap.size + 1, 1, none⟩) (by simp)]; simp
   have x9 : w1.cell? ⟨w.heap.size + 1, 2, none⟩ = some (.slice DA dl dc) := by rw [HA1.out.cell (p := ⟨w.heap.size + 1, 2, none⟩) (by simp)]; simp
   have hg1 : w.heap.size + 1 < w1.heap.size := by have := HA1.out.size; simp at this; omega
   have hg0 : w.heap.size < w1.heap.size := by omega
   clear HA1 f0 f1 f2 f3 f4 f5 f6 f7 f8 f9 f10
   go_region_held3 (fun w' => w'.cell? ⟨w.heap.size, 3, none⟩ = some (.int .i64 c.cap) /\ w'.cell? ⟨w.heap.size + 1, 1, none⟩ = some (.slice LA ll lc) /\ w'.cell? ⟨w.heap.size + 1, 2, none⟩ = some (.slice DA dl dc)) (first | go_keep | (simp only [hk1, hk2]; go_keep)) (first
    | (go_at_call 74; refine (HRO.out w1.heap.size _ _ _ (HB1.out.trans ((below1 _ _).mono HB1.out.size)) ?_ HB1.out.size (own_blk1 (Blk.drew (blk_new rfl)) (Nat.le_refl _) rfl ?_)).mono ?_; simp; (unfold maxLen; omega); rintro er w2 ⟨A2, d2, rfl, ho2, hb2⟩; have hB2 : Below w1.heap.size w1 w2 := (below1 _ _).trans hb2; have hk1 := fun o => hB2.cell (p := ⟨w.heap.size, o, none⟩) hg0; have hk2 := fun o => hB2.cell (p := ⟨w.heap.size + 1, o, none⟩) hg1)
    | (go_at_call 78; refine (HRE.out w1.heap.size _ _ _ (btr HB1.out hB2) hB2.size HB1.out.size ho2).mono ?_; rintro er w3 ⟨A3, d3, rfl, ho3, hb3⟩; have hB3 : Below w1.heap.size w1 w3 := hB2.trans hb3; have hk1 := fun o => hB3.cell (p := ⟨w.heap.size, o, none⟩) hg0; have hk2 := fun o => hB3.cell (p := ⟨w.heap.size + 1, o, none⟩) hg1))
   clear hk1 hk2 x3 x8 x9
   have HO3 := Zd (own_lower ho3 HB1.out.size)
   have HB3 := Zd (btr HB1.out hB3)
   clear ho3 hB3 hB2 hb2 hb3 ho2
   go_wp2_with fail
   go_ret
   unfold RetWords
   rw [HLN.out]
   exact ⟨A3, d3, rfl, HO3.out, HB3.out⟩
def rrOf (u : Nat) : Resr := ⟨(u : Int) / 17592186044416, (u : Int) / 1099511627776 % 16, (u : Int) / 4294967296 % 256, (u : Int) % 4294967296⟩
theorem rsl_load {w : World} {g : Nat} {r : Resr} (h : Blk w g 42 r.cells) : (loadVar 42 ⟨g, 0, none⟩).run Tryz.prog w = .ok (rsV r) w :=
 run_loadVar_row (P := Tryz.prog) w g 42 42 _ (0, 0) _ h Tryz.underlying42 rfl (by kernel_rfl)
theorem and4 (u : Nat) (h : u < 18446744073709551616) : bits BinOp.and IntKind.u64 (u : Int) 15 = (u : Int) % 16 := by
 have h1 := bits_and_u64_nat u 15 h (by decide)
 have h2 : u &&& 15 = u % 16 := by
  have := Nat.and_two_pow_sub_one_eq_mod u 4
  simpa using this
 rw [h2] at h1
 exact h1.trans (by omega)
theorem and8 (u : Nat) (h : u < 18446744073709551616) : bits BinOp.and IntKind.u64 (u : Int) 255 = (u : Int) % 256 := by
 have h1 := bits_and_u64_nat u 255 h (by decide)
 have h2 : u &&& 255 = u % 256 := by
  have := Nat.and_two_pow_sub_one_eq_mod u 8
  simpa using this
 rw [h2] at h1
 exact h1.trans (by omega)
theorem ReadResult_any (u : Nat) (hu : u < 18446744073709551616) (w : World) :
  Calls Tryz.prog 102 #[.int .u64 u] w fun e w' => e = .returned (rsV (rrOf u)) /\ Below w.heap.size w w' := by
 have f1 := and4 (u / 1099511627776) (by omega)
 have f2 := and8 (u / 4294967296) (by omega)
 have f3 := and32 u hu
 rw [show ((u / 1099511627776 : Nat) : Int) = (u : Int) / 1099511627776 by omega] at f1
 rw [show ((u / 4294967296 : Nat) : Int) = (u : Int) / 4294967296 by omega] at f2
 have p1 : 0 <= (u : Int) / 17592186044416 /\ (u : Int) / 17592186044416 < 1048576 := by omega
 have p2 : 0 <= (u : Int) / 1099511627776 % 16 /\ (u : Int) / 1099511627776 % 16 < 16 := by omega
 have p3 : 0 <= (u : Int) / 4294967296 % 256 /\ (u : Int) / 4294967296 % 256 < 256 := by omega
 have p4 : 0 <= (u : Int) % 4294967296 /\ (u : Int) % 4294967296 < 4294967296 := by omega
 obtain ⟨p1a, p1b⟩ := p1
 obtain ⟨p2a, p2b⟩ := p2
 obtain ⟨p3a, p3b⟩ := p3
 obtain ⟨p4a, p4b⟩ := p4
 go_enter Tryz.func102, Tryz.ntmps102
 go_wp2
 refine bodyPost_ret (v := rsV (rrOf u)) (ret_cell (g := w.heap.size) rfl rfl (rsl_load (Blk.new w 42 (rrOf u).cells))) rfl ⟨rfl, ?_⟩
 exact (Below.refl _ _).alloc (Nat.le_refl _) _
theorem knext_any (g b p m c : Nat) (x : Int) (w : World) (hg : Blk w g 172 [.slice (some ⟨b, p, none⟩) m c]) (hm : 0 < m) (hc : m <= c) (hx : w.cell? ⟨b, p, none⟩ = some (.int .u64 x)) :
  Calls Tryz.prog 134 #[.pointer (some ⟨g, 0, none⟩)] w fun e w' => e = .returned (.int .u64 x) /\ ∃ p', (1 < m -> p' = p + 1) /\ w' = w.setCell ⟨g, 0, none⟩ (.slice (some ⟨b, p', none⟩) (m - 1) (c - 1)) := by
 have y0 := hg.cell (i := 0) rfl
 have z0 := hg.frozen 0
 have m0 : ¬ (m : Int) = 0 := by omega
 have m1 : (0 : Int) < (m : Int) := by omega
 have m2 : (1 : Int) <= (m : Int) := by omega
 have m3 : (m : Int) <= (c : Int) := by omega
 by_cases hc1 : c = 1
 . subst hc1
   obtain rfl : m = 1 := by omega
   go_enter Tryz.func134, Tryz.ntmps134
   go_wp2
   go_ret
   exact ⟨rfl, p, fun h => by omega, rfl⟩
 . have c1 : 1 < c := by omega
   have c2 : ¬ c - 1 = 0 := by omega
   have c3 : (c - 1 == 0) = false := by simpa using c2
   go_enter Tryz.func134, Tryz.ntmps134
   go_wp2
   go_ret
   exact ⟨rfl, p + 1, fun _ => rfl, rfl⟩
structure RdrAt (w : World) (g b : Nat) (L : List Int) : Prop where
 at_ : ∃ p c, Blk w g 172 [.slice (some ⟨b, p, none⟩) L.length c] /\ L.length <= c /\ ∀ k, k < L.length -> w.cell? ⟨b, p + k, none⟩ = some (.int .u64 (L.getD k 0))
 ne : b ≠ g
 bl : b < w.heap.size
 big : ∀ x ∈ L, 0 <= x /\ x < 18446744073709551616
theorem RdrAt.gl {w : World} {g b : Nat} {L : List Int} (h : RdrAt w g b L) : g < w.heap.size := by
 obtain ⟨p, c, h1, _⟩ := h.at_
 exact h1.lt
theorem RdrAt.low {w w' : World} {g b base : Nat} {L : List Int} (h : RdrAt w g b L) (hb : Below base w w') (h1 : g < base) (h2 : b < base) : RdrAt w' g b L := by
 obtain ⟨p, c, g1, g2, g3⟩ := h.at_
 refine ⟨⟨p, c, g1.below hb h1, g2, fun k hk => ?_⟩, h.ne, Nat.lt_of_lt_of_le h.bl hb.size, h.big⟩
 rw [hb.cell (p := ⟨b, p + k, none⟩) h2]
 exact g3 k hk
theorem RdrAt.below {w w' : World} {g b : Nat} {L : List Int} (h : RdrAt w g b L) (hb : Below w.heap.size w w') : RdrAt w' g b L := h.low hb h.gl h.bl
theorem rdr_next (g b : Nat) (x : Int) (L : List Int) (w : World) (h : RdrAt w g b (x :: L)) :
  Calls Tryz.prog 134 #[.pointer (some ⟨g, 0, none⟩)] w fun e w' => e = .returned (.int .u64 x) /\ RdrAt w' g b L /\ Only g w w' := by
 obtain ⟨p, c, h1, h2, h3⟩ := h.at_
 refine (knext_any g b p (x :: L).length c x w h1 (by simp) h2 (h3 0 (by simp))).mono ?_
 rintro e w' ⟨rfl, p', hp, rfl⟩
 refine ⟨rfl, ⟨⟨p', c - 1, h1.set_ 0 _, by simp at h2 ⊢; omega, fun k hk => ?_⟩, h.ne, by simpa [World.setCell] using h.bl, fun y hy => h.big y (List.mem_cons_of_mem _ hy)⟩, (Only.refl g w).set_ 0 _⟩
 have hp2 := hp (by simp; omega)
 subst hp2
 have hc : (w.setCell ⟨g, 0, none⟩ (.slice (some ⟨b, p + 1, none⟩) ((x :: L).length - 1) (c - 1))).cell? ⟨b, p + 1 + k, none⟩ = w.cell? ⟨b, p + 1 + k, none⟩ :=
  World.cell?_of_block (Below.heap_setCell w ⟨g, 0, none⟩ _ b h.ne)
 rw [hc, show p + 1 + k = p + (k + 1) by omega]
 have := h3 (k + 1) (by simpa using hk)
 simpa using this
theorem drop_cons_getD {L : List Int} {k : Nat} (h : k < L.length) : L.drop k = L.getD k 0 :: L.drop (k + 1) := by
 rw [List.drop_eq_getElem_cons h]
 simp [List.getD, h]
theorem rowR_succ (some k : _) (l : List Int) : rowR some (k + 1) l = rowR some k l ++ (if (k : Int) < some then [l.getD k 0 % 4294967296] else []) := by
 unfold rowR
 rw [List.range_succ, List.filter_append, List.map_append]
 congr 1
 by_cases h : (k : Int) < some
 . simp [h]
 . simp [h]
theorem rowR_len (some : Int) (n : Nat) (l : List Int) : (rowR some n l).length <= n := by
 unfold rowR
 rw [List.length_map]
 have := List.length_filter_le (fun i : Nat => decide ((i : Int) < some)) (List.range n)
 simpa using this
theorem own_Only {w w' : World} {base g : Nat} {e : TypeId} {s n : Nat} {v : Value} {xs : List Value} (h : w.ownsRow base e s v n xs) (hb : Only g w w') (hg : g < base) : w'.ownsRow base e s v n xs := by
 refine ⟨h.1, ?_⟩
 rcases h.2 with h2 | ⟨k, cap, cur, hv, hbk, hh, r⟩
 . exact .inl h2
 . refine .inr ⟨k, cap, cur, hv, hbk, ?_, r⟩
   have hlt : k < w.heap.size := by
    rcases Nat.lt_or_ge k w.heap.size with hlt | hge
    . exact hlt
    . rw [Array.getElem?_eq_none hge] at hh; cases hh
   exact (hb.block k hlt (by omega)).trans hh
theorem Only.then_ {a w w' : World} {g : Nat} (h : Only g a w) (hb : Below a.heap.size w w') : Only g a w' :=
 ⟨hb.os.trans h.os, hb.tape.trans h.tape, hb.output.trans h.output, Nat.le_trans h.size hb.size, fun k hk hn => (hb.block k hk).trans (h.block k hk hn)⟩
theorem rdr_row (g b : Nat) (L : List Int) (m : Int) (n : Nat) (w : World) (h : RdrAt w g b L) (hn : n <= L.length) (hL : n <= 1048576) :
  Calls Tryz.prog 162 #[.pointer (some ⟨g, 0, none⟩), .int .i64 m, .int .i64 n] w fun e w' =>
   ∃ A c, e = .returned (.slice A (rowR m n L).length c) /\ w'.ownsRow w.heap.size 3 1 (.slice A (rowR m n L).length c) (rowR m n L).length (ints (rowR m n L)) /\ RdrAt w' g b (L.drop n) /\ Only g w w' := by
 have HN := Zd hn
 have HR0 := Zd h
 clear hn h
 go_enter Tryz.func162, Tryz.ntmps162
 go_wp2_with fail
 go_loopg [7, 11] n (fun gg out i wr => ∃ (k : Nat) (A1 : Option Addr) (c1 : Nat), k <= n /\ gg = n - k /\ i = .int .i64 k /\ out = .slice A1 (rowR m k L).length c1 /\ wr.ownsRow w.heap.size 3 1 (.slice A1 (rowR m k L).length c1) (rowR m k L).length (ints (rowR m k L)) /\ RdrAt wr g b (L.drop k) /\ Only g w wr)
 case atStart => exact ⟨0, none, 0, Nat.zero_le _, rfl, rfl, rfl, own_nil _ _ _ _, by simpa using HR0.out, Only.refl _ _⟩
 case round =>
  obtain ⟨k, A1, c1, hk, hg, rfl, rfl, how, hr, ho⟩ := hrel
  have HG := Zd hg
  have HO := Zd how
  have HON := Zd ho
  have hrl := rowR_len m k L
  have hgl := HR0.out.gl
  have hbl := HR0.out.bl
  by_cases hlt : k < n
  . have hkL : k < L.length := Nat.lt_of_lt_of_le hlt HN.out
    rw [drop_cons_getD hkL] at hr
    have HS := Zd (rowR_succ m k L)
    have hbig := hr.big _ (List.mem_cons_self ..)
    have HNX := Zd (rdr_next g b _ _ wr hr)
    clear hg how ho hr hkL
    generalize L.getD k 0 = x at *
    obtain ⟨u, rfl⟩ : ∃ u : Nat, x = u := ⟨x.toNat, by omega⟩
    have a32 := and32 u (by omega)
    have v0 : 0 <= (u : Int) % 4294967296 := by omega
    have v1 : (u : Int) % 4294967296 <= 4294967295 := by omega
    clear hbig
    by_cases hkm : (k : Int) < m
    . rw [if_pos hkm] at HS
      generalize hxs : rowR m (k + 1) L = ys at *
      generalize rowR m k L = xs at *
      generalize (u : Int) % 4294967296 = z at *
      have HYL : Hid (ys.length = xs.length + 1) := Zd (by rw [HS.out]; simp)
      go_wp2_with (first
       | (refine HNX.out.mono ?_; rintro er w1 ⟨rfl, hr1, ho1⟩; have HR1 := Zd hr1; have HO1 := Zd ho1; clear hr1 ho1)
       | (at_builtin; refine wpList_app rfl (.tmp 19) (.tmp 23) 22 3 rfl w.heap.size (.int .i64 0) 1 8 Tryz.underlying22 int_info rfl (by decide) A1 xs.length c1 (ints xs) rfl ((own_Only HO.out HO1.out hgl).alloc _) (some ⟨w1.heap.size, 0, none⟩) 1 1 (ints [z]) rfl (by simp) rfl (blk_new rfl).rd (ints_one _) (xs.length + 1) rfl (ints ys) (by rw [HS.out]; simp [ints]) (by unfold maxLen; omega) (by omega) (Nat.le_trans HON.out.size (Nat.le_trans HO1.out.size (by simp))) ?_; intro A2 c2 w2 hown2 hg2 hb2))
      go_roundg (n - (k + 1))
      case measure => rw [HG.out]; omega
      case rel =>
       have hsz : w.heap.size <= w1.heap.size := Nat.le_trans HON.out.size HO1.out.size
       have hB : Below w.heap.size w1 w2 := ((Below.refl w.heap.size w1).alloc hsz _).trans hb2
       refine ⟨k + 1, A2, c2, by omega, rfl, by go_num, ?_, ?_, HR1.out.low hB hgl hbl, (HON.out.trans HO1.out).then_ hB⟩
       . rw [hxs, HYL.out]
       . rw [hxs, HYL.out]; exact hown2
    . rw [if_neg hkm, List.append_nil] at HS
      go_wp2_with (first
       | (refine HNX.out.mono ?_; rintro er w1 ⟨rfl, hr1, ho1⟩; have HR1 := Zd hr1; have HO1 := Zd ho1; clear hr1 ho1))
      go_roundg (n - (k + 1))
      case measure => rw [HG.out]; omega
      case rel =>
       refine ⟨k + 1, A1, c1, by omega, rfl, by go_num, by rw [HS.out], ?_, HR1.out, HON.out.trans HO1.out⟩
       rw [HS.out]; exact own_Only HO.out HO1.out hgl
  . obtain rfl : k = n := by omega
    have HRK := Zd hr
    clear hg how ho hr
    go_wp2_with fail
    go_ret
    exact ⟨A1, c1, rfl, HO.out, HRK.out, HON.out⟩
theorem resR_succ (k : Nat) (l : List Int) : resR (k + 1) l = resR k l ++ [rrI (l.getD k 0)] := by
 unfold resR
 rw [List.range_succ, List.map_append]
 rfl
theorem resR_len (k : Nat) (l : List Int) : (resR k l).length = k := by simp [resR]
theorem rdr_results (g b : Nat) (L : List Int) (n : Nat) (w : World) (h : RdrAt w g b L) (hn : n <= L.length) (hL : n <= 4096) :
  Calls Tryz.prog 137 #[.pointer (some ⟨g, 0, none⟩), .int .i64 n] w fun e w' =>
   ∃ A c, e = .returned (.slice A n c) /\ w'.ownsRow w.heap.size 42 4 (.slice A n c) n (rows (resR n L)) /\ RdrAt w' g b (L.drop n) /\ Only g w w' := by
 have HN := Zd hn
 have HR0 := Zd h
 clear hn h
 go_enter Tryz.func137, Tryz.ntmps137
 go_wp2_with fail
 go_loopg [5, 7] n (fun gg out i wr => ∃ (k : Nat) (A1 : Option Addr) (c1 : Nat), k <= n /\ gg = n - k /\ i = .int .i64 k /\ out = .slice A1 k c1 /\ wr.ownsRow w.heap.size 42 4 (.slice A1 k c1) k (rows (resR k L)) /\ RdrAt wr g b (L.drop k) /\ Only g w wr)
 case atStart => exact ⟨0, none, 0, Nat.zero_le _, rfl, rfl, rfl, own_nil _ _ _ _, by simpa using HR0.out, Only.refl _ _⟩
 case round =>
  obtain ⟨k, A1, c1, hk, hg, rfl, rfl, how, hr, ho⟩ := hrel
  have HG := Zd hg
  have HO := Zd how
  have HON := Zd ho
  have hgl := HR0.out.gl
  have hbl := HR0.out.bl
  by_cases hlt : k < n
  . have hkL : k < L.length := Nat.lt_of_lt_of_le hlt HN.out
    rw [drop_cons_getD hkL] at hr
    have HS := Zd (resR_succ k L)
    have hbig := hr.big _ (List.mem_cons_self ..)
    have HNX := Zd (rdr_next g b _ _ wr hr)
    clear hg how ho hr hkL
    generalize L.getD k 0 = x at *
    obtain ⟨u, rfl⟩ : ∃ u : Nat, x = u := ⟨x.toNat, by omega⟩
    have HRR := Zd (fun W => ReadResult_any u (by omega) W)
    have hrr : rrOf u = rrI u := rfl
    rw [hrr] at HRR
    clear hbig hrr
    generalize rrI (u : Int) = r at *
    unfold rsV at HRR
    go_wp2_with (first
     | (refine HNX.out.mono ?_; rintro er w1 ⟨rfl, hr1, ho1⟩; have HR1 := Zd hr1; have HO1 := Zd ho1; clear hr1 ho1)
     | (refine (HRR.out _).mono ?_; rintro er w2 ⟨rfl, hb2⟩; have HB2 := Zd hb2; clear hb2)
     | (at_builtin; refine wpList_app rfl (.tmp 9) (.tmp 13) 85 42 rfl w.heap.size (rsV Resr.none) 4 32 Tryz.underlying85 CloneRs_info rfl (by decide) A1 k c1 (rows (resR k L)) rfl ((own_below (own_Only HO.out HO1.out hgl) HB2.out).alloc _) (some ⟨w2.heap.size, 0, none⟩) 1 1 (rows [r]) rfl (by simp) rfl (blk_new rfl).rd (rows_one _) (k + 1) rfl (rows (resR (k + 1) L)) (by rw [HS.out, rows_append]) (by unfold maxLen; omega) (by omega) (Nat.le_trans HON.out.size (Nat.le_trans HO1.out.size (Nat.le_trans HB2.out.size (by simp)))) ?_; intro A2 c2 w3 hown2 hg2 hb3))
    go_roundg (n - (k + 1))
    case measure => rw [HG.out]; omega
    case rel =>
     have hsz : w.heap.size <= w1.heap.size := Nat.le_trans HON.out.size HO1.out.size
     have hB : Below w.heap.size w1 w3 := ((HB2.out.mono hsz).alloc (Nat.le_trans hsz HB2.out.size) _).trans hb3
     exact ⟨k + 1, A2, c2, by omega, rfl, by go_num, rfl, hown2, HR1.out.low hB hgl hbl, (HON.out.trans HO1.out).then_ hB⟩
  . obtain rfl : k = n := by omega
    have HRK := Zd hr
    clear hg how ho hr
    go_wp2_with fail
    go_ret
    exact ⟨A1, c1, rfl, HO.out, HRK.out, HON.out⟩
end Go.Proofs.YtieglgahfeecbaaGreatDoor
