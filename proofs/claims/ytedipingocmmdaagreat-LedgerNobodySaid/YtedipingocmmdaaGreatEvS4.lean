/- An evaluator of calls: its operations that make, read and write rows go as the program's do. -/
import Derived.Test.YtedipingocmmdaaGreatEvS3
namespace Go.Proofs.YtedipingocmmdaaGreat.Ev
open Go Go.RowKit

section
variable {P : Program}
theorem zero_of {t : TypeId} {z : List Value} (h : zeroOf P t = some z) : ∃ i z0, P.info? t = some i ∧ i.zero = some z0 ∧ z0.cells.toList = z ∧ z.all flatB = true := by
  unfold zeroOf at h
  cases hi : P.info? t with
  | none => rw [hi] at h; cases h
  | some i =>
    rw [hi] at h
    simp only at h
    cases hz : i.zero with
    | none => rw [hz] at h; cases h
    | some z0 =>
      rw [hz] at h
      simp only at h
      split at h
      · rename_i hf
        injection h with h
        subst h
        exact ⟨i, z0, rfl, hz, by cases z0 <;> rfl, hf⟩
      · cases h
theorem run_zeroValue {t : TypeId} {w : World} {i : TypeInfo} {z0 : Value} (h : P.info? t = some i) (hz : i.zero = some z0) : (zeroValue t).run P w = .ok z0 w := by
  unfold zeroValue
  rw [run_bind (run_typeInfo h), hz]; rfl
theorem run_newRow {t : TypeId} {w : World} {cs : Array Value} : (Go.newRow t cs).run P w = .ok ⟨w.heap.size, 0, none⟩ (w.alloc (.cells cs t)) := rfl
section
variable {base : Nat} {w0 w : World} {ρ : Nat → Loc} {U : Nat → Prop} {H H1 : Mem}
/-- A place for a new name. -/
def ρat (ρ : Nat → Loc) (c : Nat) (L : Loc) : Nat → Loc := fun n => if n = c then L else ρ n
def Uat (U : Nat → Prop) (c : Nat) : Nat → Prop := fun n => U n ∨ n = c
theorem ρat_self {c : Nat} {L : Loc} : ρat ρ c L c = L := if_pos rfl
theorem more_at {c : Nat} {L : Loc} (hc : ¬ U c) : More ρ U (ρat ρ c L) (Uat U c) := ⟨fun n hn => if_neg (fun e : n = c => hc (e ▸ hn)), fun _ hn => .inl hn⟩
theorem map_more {ρ' : Nat → Loc} {U' : Nat → Prop} (hm : More ρ U ρ' U') {l : List Value} (h : ∀ v ∈ l, Ok ρ U v ∧ one v) : l.map (ren ρ') = l.map (ren ρ) ∧ ∀ v ∈ l, Ok ρ' U' v ∧ one v :=
  ⟨List.map_congr_left fun v hv => (ok_more hm v (h v hv).1).2, fun v hv => ⟨(ok_more hm v (h v hv).1).1, (h v hv).2⟩⟩
theorem rel_new (hR : Rel P base w0 ρ U H w) {c : Nat} (hc : ¬ U c) (hbig : c < big) {b : Blk} (hcells : ∀ v ∈ b.cells, Ok ρ U v ∧ one v) {cap size : Nat} {rest : List Value} (h1 : b.opn = false → rest = [])
    (h2 : b.opn = true → sizeT P b.elem = some size ∧ 0 < size ∧ b.cells.length + rest.length = cap * size) (hH : ∀ j, H1.get j = if j = c then some b else H.get j) :
    Rel P base w0 (ρat ρ c ⟨w.heap.size, cap, size⟩) (Uat U c) H1 (w.alloc (.cells (b.cells.map (ren ρ) ++ rest).toArray b.elem)) := by
  have hm := more_at (ρ := ρ) (L := ⟨w.heap.size, cap, size⟩) hc
  obtain ⟨e1, e2⟩ := map_more hm hcells
  refine hR.put (c := c) (b := b) hm (fun j hj => hj) (.inr rfl) hbig (fun j x hj => ?_) ((Below.refl base w).alloc hR.top _) ?_ ?_ ?_ ?_
  · rw [hH] at hj
    by_cases e : j = c
    · rw [if_pos e] at hj; injection hj with hj; exact .inl ⟨e, hj.symm⟩
    · rw [if_neg e] at hj
      refine .inr ⟨e, hj, ?_⟩
      rw [ρat_self]
      exact Nat.ne_of_lt (hR.at_ j (hR.live j x hj)).2
  · rw [ρat_self]; exact hR.top
  · rw [ρat_self]; show w.heap.size < (w.heap.push _).size; simp
  · intro k hk _; exact Below.heap_alloc _ _ _ hk
  · rw [ρat_self]
    refine ⟨e2, rest, ?_, h1, h2⟩
    rw [e1]
    show (w.heap.push _)[w.heap.size]? = _
    simp
end
/-- A row made of cells that are there: its name, its address. -/
theorem goes_new {o : Oper} {a : Act} {base : Nat} {w0 w : World} {ρ : Nat → Loc} {U : Nat → Prop} {H : Mem} {g : Bool} {c : Nat} {l : Log} {v : Value} {c' : Nat} {H' : Mem} {l' : Log} {t : TypeId} {cs : List Value} {mk : Addr → Value} {ar : Array Value}
    (hR : Rel P base w0 ρ U H w) (hU : ∀ n, c ≤ n → n < c' → ¬ U n) (hcs : ∀ v ∈ cs, Ok ρ U v ∧ one v) (h : M.new ⟨t, cs, false⟩ (fun n => .ret (mk ⟨n, 0, none⟩)) g c H l = .ok v c' H' l') (har : ar.toList = cs.map (ren ρ))
    (hmk : ∀ (ρ' : Nat → Loc) (U' : Nat → Prop) n, U' n → Ok ρ' U' (mk ⟨n, 0, none⟩) ∧ ren ρ' (mk ⟨n, 0, none⟩) = mk ⟨(ρ' n).blk, 0, none⟩)
    (hrun : (execOp a.eval o).run P w = .ok (.value (mk ⟨w.heap.size, 0, none⟩)) (w.alloc (.cells ar t))) : Goes P o a base w0 ρ U w c c' H' v := by
  obtain ⟨H1, h0, hbig, -, hg, h⟩ := new_ok h
  obtain ⟨rfl, rfl, rfl, rfl⟩ := ret_ok h
  have hc : ¬ U c := hU c (Nat.le_refl _) (Nat.lt_succ_self _)
  have hr := rel_new hR hc hbig (b := ⟨t, cs, false⟩) (cap := 0) (size := 0) (rest := []) hcs (fun _ => rfl) (fun h => by cases h) hg
  have e : (cs.map (ren ρ) ++ []).toArray = ar := by rw [List.append_nil, ← har]
  simp only at hr
  rw [e] at hr
  obtain ⟨o1, o2⟩ := hmk (ρat ρ c ⟨w.heap.size, 0, 0⟩) (Uat U c) c (.inr rfl)
  refine ⟨_, _, _, _, more_at hc, fun j hj => hj.imp id (fun e => by omega), hr, o1, hrun, .inl ?_⟩
  rw [o2, ρat_self]
theorem s_alloc {o : Oper} {t : TypeId} {z : List Value} (ho : o.op = .alloc t) (hz : zeroOf P t = some z) : SoundO P (oAlloc t z) o := by
  intro e cl a base w0 ρ U H w g c l v c' H' l' hx hR hU h
  obtain ⟨i, z0, hi, hz0, hzl, hf⟩ := zero_of hz
  obtain ⟨e1, e2⟩ := flat_all (ρ := ρ) (U := U) hf
  refine goes_new (mk := fun q => .pointer (some q)) (cs := z) (ar := z0.cells) hR hU e2 h (by rw [hzl, e1]) (fun ρ' U' n hn => ⟨⟨hn, rfl⟩, rfl⟩) ?_
  unfold execOp
  rw [ho]
  simp only
  refine run_value ?_
  unfold Instr.alloc
  rw [run_bind (run_zeroValue hi hz0)]
  simp only
  rw [run_bind (show (newVar t z0).run P w = .ok ⟨w.heap.size, 0, none⟩ (w.alloc (.cells z0.cells t)) from rfl)]
  rfl
theorem s_box {o : Oper} {t : TypeId} {x : Operand} (ho : o.op = .box t x) : SoundO P (oBox t x) o := by
  intro e cl a base w0 ρ U H w g c l v c' H' l' hx hR hU h
  rw [ho] at hx
  obtain ⟨h1, h2⟩ := hx x (by simp [Op.operands])
  obtain ⟨hne, h⟩ := iff_ok h
  have hne2 : cellsOf (e x) ≠ [] := fun e0 => by rw [e0] at hne; cases hne
  refine goes_new (mk := fun q => .pointer (some q)) (cs := cellsOf (e x)) (ar := (ren ρ (e x)).cells) hR hU (cells_ok h2) h (cells_ren hne2) (fun ρ' U' n hn => ⟨⟨hn, rfl⟩, rfl⟩) ?_
  unfold execOp
  rw [ho]
  simp only [h1]
  refine run_value ?_
  unfold Instr.box
  rw [run_bind (show (newVar t (ren ρ (e x))).run P w = .ok ⟨w.heap.size, 0, none⟩ (w.alloc (.cells (ren ρ (e x)).cells t)) from rfl)]
  rfl
theorem take_front {α : Type} {xs ys : List α} {o n : Nat} (h : n ≤ (xs.drop o).length) (hn : 0 < n) : ((xs ++ ys).drop o).take n = (xs.drop o).take n := by
  rw [List.length_drop] at h
  rw [List.drop_append_of_le_length (by omega), List.take_append_of_le_length (by rw [List.length_drop]; omega)]
theorem one_cell {xs : List Value} {o : Nat} {v : Value} (h : (xs.drop o).take 1 = [v]) : xs[o]? = some v := by
  have hh := congrArg List.head? h
  rw [List.head?_take, if_neg (by decide), List.head?_drop] at hh
  exact hh
/-- A variable is loaded. -/
theorem run_load {base : Nat} {w0 w : World} {ρ : Nat → Loc} {U : Nat → Prop} {H : Mem} (hR : Rel P base w0 ρ U H w) {t : TypeId} {n : Nat} {gg : Bool} (hs : sizeT P t = some n) (hg : aggT P t = some gg) (hn : (gg || n == 1) = true)
    {b q : Nat} {g : Bool} {c : Nat} {l : Log} {v : Value} {c' : Nat} {H' : Mem} {l' : Log} (h : loadM b q n gg g c H l = .ok v c' H' l') :
    c' = c ∧ H' = H ∧ Ok ρ U v ∧ (loadVar t ⟨(ρ b).blk, q, none⟩).run P w = .ok (ren ρ v) w := by
  obtain ⟨k, l2, hk, h⟩ := read_ok h
  obtain ⟨hl, h⟩ := cut_ok h
  obtain ⟨rfl, rfl, rfl, hv⟩ := valOf_ok h
  obtain ⟨hcs, rest, hrow, -, -⟩ := hR.row b k hk
  have hsub : ∀ u ∈ (k.cells.drop q).take n, u ∈ k.cells := fun u hu => List.mem_of_mem_drop (List.mem_of_mem_take hu)
  have hOk : Ok ρ U v := by
    rcases hv with ⟨_, rfl⟩ | ⟨_, hv⟩
    · exact ⟨(okL_eq _ _ _).mpr fun u hu => (hcs u (hsub u hu)).1, fun u hu => (hcs u (hsub u hu)).2⟩
    · exact (hcs v (hsub v (by rw [hv]; exact List.mem_singleton.mpr rfl))).1
  refine ⟨rfl, rfl, hOk, ?_⟩
  unfold loadVar
  rw [run_bind (run_isAgg hg)]
  rcases hv with ⟨rfl, rfl⟩ | ⟨rfl, hv⟩
  · rw [if_pos rfl, run_bind (run_sizeOf hs)]
    have hlen := hl
    rw [List.length_drop] at hlen
    by_cases hn0 : n = 0
    · subst hn0
      show ((loadCells ⟨(ρ b).blk, q, none⟩ 0) >>= _).run P w = _
      rw [run_bind (show (loadCells ⟨(ρ b).blk, q, none⟩ 0).run P w = .ok #[] w from rfl)]
      rfl
    · rw [run_bind (show (loadCells ⟨(ρ b).blk, q, none⟩ n).run P w = _ from run_loadCells hrow q n 0 #[] (by rw [List.length_append, List.length_map]; omega))]
      show Result.ok (Value.agg (#[] ++ (((k.cells.map (ren ρ) ++ rest).drop (q + 0)).take n).toArray)) w = .ok (Value.agg ⟨renL ρ ((k.cells.drop q).take n)⟩) w
      rw [Nat.add_zero, take_front (by rw [List.length_drop, List.length_map]; omega) (by omega), renL_eq, List.map_take, List.map_drop]
      simp
  · have hn1 : n = 1 := by simpa using hn
    subst hn1
    rw [if_neg (by simp)]
    have hc := cell_at hrow q
    have h1 := one_cell hv
    rw [List.getElem?_append_left (by rw [List.length_map]; exact (List.getElem?_eq_some_iff.mp h1).1), List.getElem?_map, h1] at hc
    simp [load, Sem.run, hc]
theorem s_load {o : Oper} {t : TypeId} {x : Operand} {n : Nat} {gg : Bool} (ho : o.op = .load t x) (hs : sizeT P t = some n) (hg : aggT P t = some gg) (hn : (gg || n == 1) = true) : SoundO P (oLoad n gg x) o := by
  intro e cl a base w0 ρ U H w g c l v c' H' l' hx hR _ h
  rw [ho] at hx
  obtain ⟨h1, h2⟩ := hx x (by simp [Op.operands])
  obtain ⟨b, q, hb, h⟩ := ptr_ok h
  obtain ⟨rfl, rfl, hOk, hrun⟩ := run_load hR hs hg hn h
  rw [hb] at h1
  refine goes_same hR hOk ?_
  unfold execOp
  rw [ho]
  simp only [h1]
  refine run_value ?_
  show ((pure (Addr.mk (ρ b).blk q none) : Sem Addr) >>= fun y => loadVar t y).run P w = _
  rw [run_bind (run_pure _)]
  exact hrun
theorem log_ok {α : Type} {n : Nat} {b : Bool} {m : M α} {g : Bool} {c : Nat} {H : Mem} {l : Log} {y : α} {c' : Nat} {H' : Mem} {l' : Log} (h : M.log n b m g c H l = .ok y c' H' l') : ∃ l2, m g c H l2 = .ok y c' H' l' := by
  cases g <;> exact ⟨_, h⟩
theorem overL_map {α β : Type} (f : α → β) (o : Nat) (vs l : List α) : (overL o vs l).map f = overL o (vs.map f) (l.map f) := by
  simp [overL]
theorem overL_app {α : Type} (o : Nat) (vs l r : List α) (h : o + vs.length ≤ l.length) : overL o vs l ++ r = overL o vs (l ++ r) := by
  unfold overL
  rw [List.take_append_of_le_length (by omega), List.drop_append_of_le_length (by omega)]
  simp
theorem mem_overL {α : Type} {o : Nat} {vs l : List α} {x : α} (h : x ∈ overL o vs l) : x ∈ vs ∨ x ∈ l := by
  unfold overL at h
  rcases List.mem_append.mp h with h | h
  · rcases List.mem_append.mp h with h | h
    · exact .inr (List.mem_of_mem_take h)
    · exact .inl h
  · exact .inr (List.mem_of_mem_drop h)
/-- Cells are stored into a row. -/
theorem run_store {base : Nat} {w0 w : World} {ρ : Nat → Loc} {U : Nat → Prop} {H H1 : Mem} (hR : Rel P base w0 ρ U H w) {b q : Nat} (h16 : 16 ≤ b) {k : Blk} {vs : List Value} (hk : H.get b = some k) (hl : q + vs.length ≤ k.cells.length) (hvs : ∀ v ∈ vs, Ok ρ U v ∧ one v) {k' : Blk} (hk' : k'.elem = k.elem ∧ k'.cells = overL q vs k.cells ∧ k'.opn = k.opn)
    (hH : ∀ j, H1.get j = if j = b then some k' else H.get j) : ∃ w', (storeCells ⟨(ρ b).blk, q, none⟩ (vs.map (ren ρ))).run P w = .ok () w' ∧ Rel P base w0 ρ U H1 w' := by
  obtain ⟨hcs, rest, hrow, hr1, hr2⟩ := hR.row b k hk
  obtain ⟨w', h1, h2, h3, h4, h5, h6, h7⟩ := run_storeCells (P := P) (k := (ρ b).blk) (t := k.elem) q (vs.map (ren ρ)) 0 w _ hrow (fun v hv => by
    obtain ⟨u, hu, rfl⟩ := List.mem_map.mp hv
    exact one_ren ρ (hvs u hu).2) (by rw [List.length_append, List.length_map, List.length_map]; omega)
  refine ⟨w', h1, ?_⟩
  have hb := hR.live b k hk
  have hat := hR.at_ b hb
  refine hR.put (c := b) (b := k') .refl (fun j hj => .inl hj) hb (hR.low b hb) (fun j x hj => ?_) ⟨h5, h6, h7, by omega, fun i hi => h3 i (by have := hat.1 h16; omega)⟩ (hat.1 h16) (by omega) (fun i _ hi => h3 i hi) ?_
  · rw [hH] at hj
    by_cases e : j = b
    · rw [if_pos e] at hj; injection hj with hj; exact .inl ⟨e, hj.symm⟩
    · rw [if_neg e] at hj
      exact .inr ⟨e, hj, fun e2 => e (hR.inj j b x k hj hk e2)⟩
  · obtain ⟨ke, kc, ko⟩ := hk'
    refine ⟨fun v hv => ?_, rest, ?_, fun h => hr1 (by rw [← ko]; exact h), fun h => ?_⟩
    · rw [kc] at hv
      rcases mem_overL hv with hv | hv
      · exact hvs v hv
      · exact hcs v hv
    · rw [h2, ke, kc, Nat.add_zero, overL_map, overL_app _ _ _ _ (by rw [List.length_map, List.length_map]; exact hl)]
    · obtain ⟨s1, s2, s3⟩ := hr2 (by rw [← ko]; exact h)
      exact ⟨by rw [ke]; exact s1, s2, by rw [kc, overL_length _ _ _ hl]; exact s3⟩
theorem store_ok {α : Type} {b q : Nat} {vs : List Value} {m : M α} {g : Bool} {c : Nat} {H : Mem} {l : Log} {y : α} {c' : Nat} {H' : Mem} {l' : Log} (h : storeM b q vs m g c H l = .ok y c' H' l') :
    ∃ k H1 l2, 16 ≤ b ∧ H.get b = some k ∧ q + vs.length ≤ k.cells.length ∧ (∀ j, H1.get j = if j = b then some ⟨k.elem, overL q vs k.cells, k.opn⟩ else H.get j) ∧ m g c H1 l2 = .ok y c' H' l' := by
  obtain ⟨l2, h⟩ := log_ok h
  obtain ⟨k, hk, h⟩ := read0_ok h
  rw [overAt_eq] at h
  split at h
  · rename_i hl
    obtain ⟨H1, hg, ⟨-, h16⟩, h⟩ := put0_ok h
    exact ⟨k, H1, _, h16, hk, hl, hg, h⟩
  · cases h
theorem s_store {o : Oper} {t : TypeId} {x y : Operand} {n : Nat} (ho : o.op = .store t x y) (hs : sizeT P t = some n) (hn : n ≠ 0) : SoundO P (oStore n x y) o := by
  intro e cl a base w0 ρ U H w g c l v c' H' l' hx hR _ h
  rw [ho] at hx
  obtain ⟨h1, h2⟩ := hx x (by simp [Op.operands])
  obtain ⟨h3, h4⟩ := hx y (by simp [Op.operands])
  obtain ⟨b, q, hb, h⟩ := ptr_ok h
  obtain ⟨hlen, h⟩ := iff_ok h
  have hlen2 := lenIs_eq _ _ hlen
  obtain ⟨k, H1, l2, h16, hk, hl, hH, h⟩ := store_ok h
  obtain ⟨rfl, rfl, rfl, rfl⟩ := ret_ok h
  obtain ⟨w', hrun, hrel⟩ := run_store (k' := ⟨k.elem, overL q (cellsOf (e y)) k.cells, k.opn⟩) hR h16 hk hl (cells_ok h4) ⟨rfl, rfl, rfl⟩ hH
  rw [hb] at h1
  have hne : cellsOf (e y) ≠ [] := fun e0 => by rw [e0] at hlen2; exact hn hlen2.symm
  refine ⟨ρ, U, w', .skip, .refl, fun _ h => .inl h, hrel, trivial, ?_, .inr ⟨rfl, rfl⟩⟩
  unfold execOp
  rw [ho]
  simp only [h1, h3]
  have hst : (Instr.storeAt t (ren ρ (.pointer (some ⟨b, q, none⟩))) (ren ρ (e y))).run P w = .ok () w' := by
    show ((pure (Addr.mk (ρ b).blk q none) : Sem Addr) >>= fun z => storeVar t z (ren ρ (e y))).run P w = _
    rw [run_bind (run_pure _)]
    unfold storeVar
    rw [run_bind (run_sizeOf hs)]
    have hc := cells_ren (ρ := ρ) hne
    have hsz : (ren ρ (e y)).cells.size = n := by rw [← Array.length_toList, hc, List.length_map, hlen2]
    rw [if_neg (by rw [hsz]; simp), hc]
    exact hrun
  show (Instr.storeAt t _ _ >>= fun _ => pure Next.skip).run P w = _
  rw [run_bind hst]; rfl
end
end Go.Proofs.YtedipingocmmdaaGreat.Ev

