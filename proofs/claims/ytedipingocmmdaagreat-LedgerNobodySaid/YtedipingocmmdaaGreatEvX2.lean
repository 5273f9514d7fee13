/- An evaluator of calls: what is compiled is framed, looks at its operands alone, and goes as the program's does. -/
import Derived.Test.YtedipingocmmdaaGreatEvX1
import Derived.Test.YtedipingocmmdaaGreatEvS10
namespace Go.Proofs.YtedipingocmmdaaGreat.Ev
open Go Go.RowKit

/-- Nothing is made, nothing is touched. -/
def PureO (op : Opn) : Prop := ∀ (e : Operand → Value) (cl : CL) (g : Bool) (c : Nat) (H : Mem) (l : Log) (v : Value) (c' : Nat) (H' : Mem) (l' : Log), op e cl g c H l = .ok v c' H' l' → c' = c ∧ l' = l
/-- Nothing that was there is touched. -/
def NoLogO (op : Opn) : Prop := ∀ (e : Operand → Value) (cl : CL) (g : Bool) (c : Nat) (H : Mem) (l : Log) (v : Value) (c' : Nat) (H' : Mem) (l' : Log), op e cl g c H l = .ok v c' H' l' → l' = l
theorem ret_quiet {x : Value} {g : Bool} {c : Nat} {H : Mem} {l : Log} {v : Value} {c' : Nat} {H' : Mem} {l' : Log} (h : M.ret x g c H l = .ok v c' H' l') : c' = c ∧ l' = l := ⟨(ret_ok h).2.1, (ret_ok h).2.2.2⟩
theorem q_oMv {x : Operand} : PureO (oMv x) := fun _ _ _ _ _ _ _ _ _ _ h => ret_quiet h
theorem q_oPick {a b c : Operand} : PureO (oPick a b c) := fun _ _ _ _ _ _ _ _ _ _ h => by obtain ⟨_, _, h⟩ := bool_ok h; exact ret_quiet h
theorem fill_quiet {Q : Res Value → Prop} {K : List Value → M Value} {g : Bool} {c : Nat} {H : Mem} {l : Log} (hK : ∀ cs, Q (K cs g c H l)) (hno : Q .no) : ∀ (ps : List (Nat × Nat × List Value)) (cs : List Value), Q (fillK .fail ps cs K g c H l)
  | [], cs => hK cs
  | (off, size, vs) :: r, cs => by
    show Q ((Bool.rec .fail (overAt off vs .fail cs fun cs => fillK .fail r cs K) (lenIs size vs) : M Value) g c H l)
    cases lenIs size vs
    · exact hno
    · show Q (overAt off vs .fail cs (fun cs => fillK .fail r cs K) g c H l)
      rw [overAt_eq]
      split
      · exact fill_quiet hK hno r _
      · exact hno
theorem q_oBuild {z : List Value} {ps : List (Nat × Nat × Operand)} : PureO (oBuild z ps) := fun _ _ g c H l v c' H' l' h =>
  fill_quiet (Q := fun r => r = .ok v c' H' l' → c' = c ∧ l' = l) (fun _ h => ret_quiet h) (fun h => by cases h) _ _ h
theorem q_oChk {x : Operand} : PureO (oChk x) := fun e _ g c H l v c' H' l' h => by
  unfold oChk at h
  generalize e x = y at *
  cases y with
  | pointer q =>
    cases q with
    | none => cases h
    | some q => exact ret_quiet (show M.ret (.pointer (some q)) g c H l = .ok v c' H' l' from h)
  | func f p q =>
    cases f with
    | func f => exact ret_quiet (show M.ret (.func (.func f) p q) g c H l = .ok v c' H' l' from h)
    | _ => cases h
  | _ => cases h
theorem q_oBin {op : BinOp} {x y : Operand} : PureO (oBin op x y) := fun _ _ _ _ _ _ _ _ _ _ h => by
  obtain ⟨_, _, _, h⟩ := int_ok h
  obtain ⟨_, _, _, h⟩ := int_ok h
  obtain ⟨hk, h⟩ := iff_ok h
  obtain ⟨h1, _, h2, _⟩ := bin_sound (P := default) (w := default) (t := 0) hk h
  exact ⟨h1, h2⟩
theorem q_oBeq {n : Bool} {x y : Operand} : PureO (oBeq n x y) := fun _ _ _ _ _ _ _ _ _ _ h => by obtain ⟨_, _, h⟩ := bool_ok h; obtain ⟨_, _, h⟩ := bool_ok h; exact ret_quiet h
theorem q_oEq2 {n : Bool} {x y : Operand} : PureO (oEq2 n x y) := fun _ _ _ _ _ _ _ _ _ _ h => by
  obtain ⟨_, _, h⟩ := aggv_ok h
  obtain ⟨_, _, h⟩ := aggv_ok h
  obtain ⟨_, _, _, h⟩ := two_ok h
  obtain ⟨_, _, _, h⟩ := two_ok h
  obtain ⟨_, _, _, h⟩ := int_ok h
  obtain ⟨_, _, _, h⟩ := int_ok h
  obtain ⟨_, _, _, h⟩ := int_ok h
  obtain ⟨_, _, _, h⟩ := int_ok h
  obtain ⟨_, h⟩ := iff_ok h
  exact ret_quiet h
theorem intT_int {P : Program} {t : TypeId} (h : intT P t = true) : ∃ k, P.underlying t = some (.int k) := by
  unfold intT at h
  split at h
  · rename_i k hk; exact ⟨k, hk⟩
  · cases h
theorem pairT_is {P : Program} {t : TypeId} (h : pairT P t = true) : PairT P t := by
  unfold pairT at h
  rw [Bool.and_eq_true, Bool.and_eq_true] at h
  obtain ⟨h1, h2, h3⟩ := h
  split at h1
  · rename_i fs hu
    split at h1
    · rename_i f0 f1 hf
      simp only [Bool.and_eq_true, beq_iff_eq, decide_eq_true_eq] at h1
      obtain ⟨g1, g2, g3, g4, g5, g6⟩ := h1
      obtain ⟨k0, e0⟩ := intT_int g5
      obtain ⟨k1, e1⟩ := intT_int g6
      have : fs = #[f0, f1] := Array.toList_inj.mp hf
      subst this
      exact ⟨⟨f0, f1, k0, k1, hu, g1, g2, g3, g4, e0, e1⟩, by simpa using h2, by simpa using h3⟩
    · cases h1
  · cases h1
theorem q_oNilP {n : Bool} {x : Operand} : PureO (oNilP n x) := fun e _ g c H l v c' H' l' h => by
  unfold oNilP at h
  generalize e x = y at *
  cases y with
  | pointer q => exact ret_quiet (show M.ret (.bool (xor n (isNone q))) g c H l = .ok v c' H' l' from h)
  | _ => cases h
theorem q_oNilS {n : Bool} {x : Operand} : PureO (oNilS n x) := fun _ _ _ _ _ _ _ _ _ _ h => by obtain ⟨_, _, _, _, h⟩ := slice_ok h; exact ret_quiet h
theorem q_oNot {x : Operand} : PureO (oNot x) := fun _ _ _ _ _ _ _ _ _ _ h => by obtain ⟨_, _, h⟩ := bool_ok h; exact ret_quiet h
theorem q_oConv {k : IntKind} {x : Operand} : PureO (oConv k x) := fun _ _ _ _ _ _ _ _ _ _ h => by obtain ⟨_, _, _, h⟩ := int_ok h; exact ret_quiet h
theorem q_oMkFn {f : FuncId} {a b : List Operand} : PureO (oMkFn f a b) := fun _ _ _ _ _ _ _ _ _ _ h => ret_quiet h
theorem q_oFld {o : Nat} {x : Operand} : PureO (oFld o x) := fun _ _ _ _ _ _ _ _ _ _ h => by obtain ⟨_, _, _, h⟩ := ptr_ok h; exact ret_quiet h
theorem q_oPart {o s : Nat} {gg : Bool} {x : Operand} : PureO (oPart o s gg x) := fun e _ g c H l v c' H' l' h => by
  unfold oPart at h
  generalize e x = y at *
  cases y with
  | agg cs =>
    obtain ⟨_, h⟩ := cut_ok (show cut o s (toL cs) .fail (fun r => valOf gg r .fail M.ret) g c H l = .ok v c' H' l' from h)
    obtain ⟨h1, _, h2, _⟩ := valOf_ok h
    exact ⟨h1, h2⟩
  | _ => cases h
theorem q_oIdx {s : Nat} {x i : Operand} : PureO (oIdx s x i) := fun _ _ _ _ _ _ _ _ _ _ h => by
  obtain ⟨_, _, _, _, h⟩ := slice_ok h
  obtain ⟨_, _, _, h⟩ := addr_ok h
  obtain ⟨_, _, _, h⟩ := nat_ok h
  obtain ⟨_, h⟩ := iff_ok h
  exact ret_quiet h
theorem q_oExt {i : Nat} {x : Operand} : PureO (oExt i x) := fun e _ g c H l v c' H' l' h => by
  unfold oExt at h
  generalize e x = y at *
  cases y with
  | tuple vs =>
    replace h : nth .fail M.ret i vs.toList g c H l = .ok v c' H' l' := h
    rw [nth_eq] at h
    split at h
    · exact ret_quiet h
    · cases h
  | _ => cases h
theorem q_oLen {x : Operand} : PureO (oLen x) := fun _ _ _ _ _ _ _ _ _ _ h => by obtain ⟨_, _, _, _, h⟩ := slice_ok h; exact ret_quiet h
theorem q_oCap {x : Operand} : PureO (oCap x) := fun _ _ g c H l v c' H' l' h => by
  obtain ⟨_, _, m, _, h⟩ := slice_ok h
  replace h : (Bool.rec (M.ret (.int .i64 (.ofNat m))) .fail (isRoomy m) : M Value) g c H l = .ok v c' H' l' := h
  cases hm : isRoomy m <;> rw [hm] at h
  · exact ret_quiet (x := .int .i64 (.ofNat m)) h
  · cases h
theorem q_oLeast {x y : Operand} : PureO (oLeast x y) := fun _ _ _ _ _ _ _ _ _ _ h => by obtain ⟨_, _, _, h⟩ := int_ok h; obtain ⟨_, _, _, h⟩ := int_ok h; exact ret_quiet h
theorem q_oMost {x y : Operand} : PureO (oMost x y) := fun _ _ _ _ _ _ _ _ _ _ h => by obtain ⟨_, _, _, h⟩ := int_ok h; obtain ⟨_, _, _, h⟩ := int_ok h; exact ret_quiet h
theorem q_bad : PureO oBad := fun _ _ _ _ _ _ _ _ _ _ h => by cases h
theorem new_quiet {b : Blk} {k : Nat → Value} {g : Bool} {c : Nat} {H : Mem} {l : Log} {v : Value} {c' : Nat} {H' : Mem} {l' : Log} (h : M.new b (fun n => .ret (k n)) g c H l = .ok v c' H' l') : l' = l := by
  obtain ⟨_, _, _, _, _, h⟩ := new_ok h
  exact (ret_ok h).2.2.2
theorem n_oAlloc {t : TypeId} {z : List Value} : NoLogO (oAlloc t z) := fun _ _ _ _ _ _ _ _ _ _ h => new_quiet (k := fun n => .pointer (some ⟨n, 0, none⟩)) h
theorem n_oBox {t : TypeId} {x : Operand} : NoLogO (oBox t x) := fun _ _ _ _ _ _ _ _ _ _ h => by obtain ⟨_, h⟩ := iff_ok h; exact new_quiet h
theorem n_oBslice {t : TypeId} {n : Nat} {z : List Value} {ps : List (Nat × Nat × Operand)} : NoLogO (oBslice t n z ps) := fun _ _ g c H l v c' H' l' h =>
  fill_quiet (Q := fun r => r = .ok v c' H' l' → l' = l) (fun _ h => new_quiet h) (fun h => by cases h) _ _ h
theorem n_oMkSlice {t : TypeId} {s b : Nat} {z : List Value} {l c : Operand} : NoLogO (oMkSlice t s b z l c) := fun _ _ _ _ _ _ _ _ _ _ h => by
  obtain ⟨_, _, _, h⟩ := nat_ok h
  obtain ⟨_, _, _, h⟩ := nat_ok h
  obtain ⟨_, h⟩ := iff_ok h
  exact new_quiet h

/-- What is made of an operation is as it should be. -/
structure OpOk (P : Program) (o : Oper) (op : Opn) : Prop where
  fr : FrO op
  lk : Looks op o.op.operands.toList
  so : ∀ cl, CallsOk P cl → SoundS P cl op o
  q0 : loud o.op = none → PureO op
  q1 : loud o.op = some false → NoLogO op
section
variable {P : Program}
theorem opOk_pure {o : Oper} {op : Opn} (h1 : FrO op) (h2 : Looks op o.op.operands.toList) (h3 : SoundO P op o) (h4 : PureO op) (h5 : loud o.op ≠ some false) : OpOk P o op := ⟨h1, h2, fun _ _ => soundS_of h3, fun _ => h4, fun h => absurd h h5⟩
theorem lk_map {e e' : Operand → Value} {l : List Operand} {xs : List Operand} (h : ∀ x ∈ xs, e x = e' x) (hl : ∀ x ∈ l, x ∈ xs) : mapK e l = mapK e' l := by
  rw [mapK_eq, mapK_eq]
  exact List.map_congr_left fun x hx => h x (hl x hx)
theorem lk_parts {e e' : Operand → Value} {ps : List (Nat × Nat × Operand)} {xs : List Operand} (h : ∀ x ∈ xs, e x = e' x) (hl : ∀ p ∈ ps, p.2.2 ∈ xs) :
    mapK (partF e) ps = mapK (partF e') ps := by
  rw [mapK_eq, mapK_eq]
  refine List.map_congr_left fun p hp => ?_
  obtain ⟨a, b, x⟩ := p
  show (a, b, cellsOf (e x)) = (a, b, cellsOf (e' x))
  rw [h x (hl _ hp)]
theorem parts_ops {place : Nat → Option (Nat × Nat)} : ∀ {parts : List (Nat × Operand)} {ps : List (Nat × Nat × Operand)}, partsOf place parts = some ps → ∀ p ∈ ps, p.2.2 ∈ parts.map (·.2)
  | [], ps, h, p, hp => by injection h with h; subst h; cases hp
  | (i, x) :: r, ps, h, p, hp => by
    unfold partsOf at h
    simp only [mapO] at h
    cases hq : partOf place (i, x) with
    | none => rw [hq] at h; cases h
    | some q =>
      rw [hq] at h
      cases hr : mapO (partOf place) r with
      | none => rw [hr] at h; cases h
      | some ps2 =>
        rw [hr] at h
        injection h with h
        subst h
        rcases List.mem_cons.mp hp with rfl | hp
        · unfold partOf at hq
          cases hpl : place i with
          | none => simp only [hpl] at hq; cases hq
          | some z =>
            simp only [hpl] at hq
            split at hq
            · cases hq
            · injection hq with hq
              subst hq
              exact List.mem_cons_self ..
        · exact List.mem_cons_of_mem _ (parts_ops (show partsOf place r = some ps2 from hr) p hp)

/-- How a call is classed. -/
def loudC : Callee → Option Bool
  | .value _ | .builtin .append | .builtin .copy => some true
  | _ => none
theorem loud_call {cc : Call} {k : Callee} {r : Option Bool} (hc : cc.callee = k) (hr : loudC k = r) : loud (.call cc) = r := by
  obtain ⟨callee, args, ts⟩ := cc
  subst hc
  subst hr
  cases callee with
  | value f => rfl
  | invoke a b => rfl
  | builtin b => cases b <;> rfl
theorem compileOp_ok {o : Oper} {op : Opn} (h : compileOp P o = some op) : OpOk P o op := by
  unfold compileOp at h
  split at h
  · -- move
    rename_i x ho
    injection h with h; subst h
    exact opOk_pure fr_oMv (fun e e' _ hx => by unfold oMv; rw [hx x (by rw [ho]; simp [Op.operands])]) (s_mv (.inl ho)) q_oMv (by rw [ho]; simp [loud])
  · rename_i x ho
    injection h with h; subst h
    exact opOk_pure fr_oMv (fun e e' _ hx => by unfold oMv; rw [hx x (by rw [ho]; simp [Op.operands])]) (s_mv (.inr ho)) q_oMv (by rw [ho]; simp [loud])
  · rename_i a b c ho
    injection h with h; subst h
    exact opOk_pure fr_oPick (fun e e' _ hx => by unfold oPick; rw [hx a (by rw [ho]; simp [Op.operands]), hx b (by rw [ho]; simp [Op.operands]), hx c (by rw [ho]; simp [Op.operands])]) (s_pick ho) q_oPick (by rw [ho]; simp [loud])
  · -- alloc
    rename_i t ho
    unfold cAlloc at h
    cases hz : zeroOf P t with
    | none => rw [hz] at h; cases h
    | some z =>
      rw [hz] at h; injection h with h; subst h
      exact ⟨fr_oAlloc, fun _ _ _ _ => rfl, fun _ _ => soundS_of (s_alloc ho hz), fun h => by rw [ho] at h; simp [loud] at h, fun _ => n_oAlloc⟩
  · rename_i t x ho
    injection h with h; subst h
    exact ⟨fr_oBox, fun e e' _ hx => by unfold oBox; rw [hx x (by rw [ho]; simp [Op.operands])], fun _ _ => soundS_of (s_box ho), fun h => by rw [ho] at h; simp [loud] at h, fun _ => n_oBox⟩
  · -- build
    rename_i t parts ho
    have hps : ∀ {place : Nat → Option (Nat × Nat)} {ps : List (Nat × Nat × Operand)}, partsOf place parts.toList = some ps → ∀ p ∈ ps, p.2.2 ∈ o.op.operands.toList := fun {place ps} hp p hm => by
      rw [ho]
      simp only [Op.operands]
      exact parts_ops hp p hm
    unfold cBuild at h
    split at h
    · rename_i fields z ht hz
      cases hpl : mapO (fieldPl P) fields.toList with
      | none => rw [hpl] at h; cases h
      | some pl =>
        rw [hpl] at h
        simp only [Option.bind_some] at h
        cases hp : partsOf (fun x => pl[x]?) parts.toList with
        | none => rw [hp] at h; cases h
        | some ps =>
          rw [hp] at h; injection h with h; subst h
          exact opOk_pure fr_oBuild (fun e e' cl hx => by show oBuild z ps e cl = oBuild z ps e' cl; unfold oBuild; rw [lk_parts hx (hps hp)]) (s_build ho ht hz hpl hp) q_oBuild (by rw [ho]; simp [loud])
    · rename_i len el z ht hz
      cases hs : sizeT P el with
      | none => rw [hs] at h; cases h
      | some s =>
        rw [hs] at h
        simp only [Option.bind_some] at h
        cases hp : partsOf (fun i => some (i * s, s)) parts.toList with
        | none => rw [hp] at h; cases h
        | some ps =>
          rw [hp] at h; injection h with h; subst h
          exact opOk_pure fr_oBuild (fun e e' cl hx => by show oBuild z ps e cl = oBuild z ps e' cl; unfold oBuild; rw [lk_parts hx (hps hp)]) (s_build2 ho ht hz hs hp) q_oBuild (by rw [ho]; simp [loud])
    · cases h
  · -- buildSlice
    rename_i t len parts ho
    unfold cBslice at h
    cases ht : sliceT P t with
    | none => rw [ht] at h; cases h
    | some el =>
      rw [ht] at h
      simp only at h
      cases hs : sizeT P el with
      | none => rw [hs] at h; cases h
      | some s =>
        cases hz : zeroOf P el with
        | none => rw [hs, hz] at h; cases h
        | some z =>
          rw [hs, hz] at h
          simp only at h
          split at h
          · cases h
          · rename_i hok
            cases hp : partsOf (fun i => some (i * s, s)) parts.toList with
            | none => rw [hp] at h; cases h
            | some ps =>
              rw [hp] at h; injection h with h; subst h
              exact ⟨fr_oBslice, fun e e' cl hx => by show oBslice el len z ps e cl = oBslice el len z ps e' cl; unfold oBslice; rw [lk_parts hx (fun p hm => by rw [ho]; simp only [Op.operands]; exact parts_ops hp p hm)], fun _ _ => soundS_of (s_bslice ho ht hs hz (by simpa using hok) hp), fun h => by rw [ho] at h; simp [loud] at h, fun _ => n_oBslice⟩
  · -- load
    rename_i t a ho
    unfold cLoad at h
    split at h
    · rename_i n g hs hg
      split at h
      · rename_i hn
        injection h with h; subst h
        exact ⟨fr_oLoad, fun e e' _ hx => by unfold oLoad; rw [hx a (by rw [ho]; simp [Op.operands])], fun _ _ => soundS_of (s_load ho hs hg hn), fun h => by rw [ho] at h; simp [loud] at h, fun h => by rw [ho] at h; simp [loud] at h⟩
      · cases h
    · cases h
  · rename_i t a x ho
    unfold cStore at h
    split at h
    · rename_i n hs
      split at h
      · cases h
      · rename_i hn
        injection h with h; subst h
        exact ⟨fr_oStore, fun e e' _ hx => by unfold oStore; rw [hx a (by rw [ho]; simp [Op.operands]), hx x (by rw [ho]; simp [Op.operands])], fun _ _ => soundS_of (s_store ho hs hn), fun h => by rw [ho] at h; simp [loud] at h, fun h => by rw [ho] at h; simp [loud] at h⟩
    · cases h
  · rename_i x ho
    injection h with h; subst h
    exact opOk_pure fr_oChk (fun e e' _ hx => by unfold oChk; rw [hx x (by rw [ho]; simp [Op.operands])]) (s_chk ho) q_oChk (by rw [ho]; simp [loud])
  · -- binOp
    rename_i op' t x y u ho
    have hx0 : x ∈ o.op.operands.toList := by rw [ho]; simp [Op.operands]
    have hy0 : y ∈ o.op.operands.toList := by rw [ho]; simp [Op.operands]
    have hl : loud o.op ≠ some false := by rw [ho]; simp [loud]
    unfold cBin at h
    split at h
    · injection h with h; subst h
      exact opOk_pure fr_oBin (fun e e' _ hx => by unfold oBin; rw [hx x hx0, hx y hy0]) (s_bin ho) q_oBin hl
    · rename_i ht
      split at h
      · injection h with h; subst h
        exact opOk_pure fr_oBeq (fun e e' _ hx => by unfold oBeq; rw [hx x hx0, hx y hy0]) (s_beq (neg := false) ho rfl ht) q_oBeq hl
      · injection h with h; subst h
        exact opOk_pure fr_oBeq (fun e e' _ hx => by unfold oBeq; rw [hx x hx0, hx y hy0]) (s_beq (neg := true) ho rfl ht) q_oBeq hl
      · cases h
    · rename_i d ht
      have key : ∀ (neg : Bool), op' = (if neg then .neq else .eql) → nilP neg x y = some op → OpOk P o op := fun neg hop h => by
        unfold nilP at h
        split at h
        · rename_i hy; injection h with h; subst h
          exact opOk_pure fr_oNilP (fun e e' _ hx => by unfold oNilP; rw [hx x hx0]) (s_nilP ho hop ht (.inl ⟨hy, rfl⟩)) q_oNilP hl
        · split at h
          · rename_i hx'; injection h with h; subst h
            exact opOk_pure fr_oNilP (fun e e' _ hx => by unfold oNilP; rw [hx y hy0]) (s_nilP ho hop ht (.inr ⟨hx', rfl⟩)) q_oNilP hl
          · cases h
      split at h
      · exact key false rfl h
      · exact key true rfl h
      · cases h
    · rename_i d ht
      have key : ∀ (neg : Bool), op' = (if neg then .neq else .eql) → nilS neg x y = some op → OpOk P o op := fun neg hop h => by
        unfold nilS at h
        split at h
        · rename_i hy; injection h with h; subst h
          exact opOk_pure fr_oNilS (fun e e' _ hx => by unfold oNilS; rw [hx x hx0]) (s_nilS ho hop ht (.inl ⟨hy, rfl⟩)) q_oNilS hl
        · split at h
          · rename_i hx'; injection h with h; subst h
            exact opOk_pure fr_oNilS (fun e e' _ hx => by unfold oNilS; rw [hx y hy0]) (s_nilS ho hop ht (.inr ⟨hx', rfl⟩)) q_oNilS hl
          · cases h
      split at h
      · exact key false rfl h
      · exact key true rfl h
      · cases h
    · split at h
      · rename_i hp
        have ht := pairT_is hp
        split at h
        · injection h with h; subst h
          exact opOk_pure fr_oEq2 (fun e e' _ hx => by unfold oEq2; rw [hx x hx0, hx y hy0]) (s_eq2 (neg := false) ho rfl ht) q_oEq2 hl
        · injection h with h; subst h
          exact opOk_pure fr_oEq2 (fun e e' _ hx => by unfold oEq2; rw [hx x hx0, hx y hy0]) (s_eq2 (neg := true) ho rfl ht) q_oEq2 hl
        · cases h
      · cases h
    · cases h
  · rename_i t x ho
    injection h with h; subst h
    exact opOk_pure fr_oNot (fun e e' _ hx => by unfold oNot; rw [hx x (by rw [ho]; simp [Op.operands])]) (s_not ho) q_oNot (by rw [ho]; simp [loud])
  · -- convert
    rename_i s d x ho
    unfold cConv at h
    split at h
    · rename_i hs hd
      injection h with h; subst h
      exact opOk_pure fr_oConv (fun e e' _ hx => by unfold oConv; rw [hx x (by rw [ho]; simp [Op.operands])]) (s_conv ho hs hd) q_oConv (by rw [ho]; simp [loud])
    · cases h
  · rename_i f a b ho
    injection h with h; subst h
    exact opOk_pure fr_oMkFn (fun e e' _ hx => by unfold oMkFn; rw [lk_map hx (fun y hy => by rw [ho]; simp [Op.operands]; exact .inl (by simpa using hy)), lk_map hx (fun y hy => by rw [ho]; simp [Op.operands]; exact .inr (by simpa using hy))]) (s_mkFn ho) q_oMkFn (by rw [ho]; simp [loud])
  · -- makeSlice
    rename_i t l c ho
    unfold cMkSlice at h
    cases ht : sliceT P t with
    | none => rw [ht] at h; cases h
    | some el =>
      rw [ht] at h
      simp only at h
      split at h
      · rename_i i z hi hz
        split at h
        · rename_i hlen
          injection h with h; subst h
          exact ⟨fr_oMkSlice, fun e e' _ hx => by unfold oMkSlice; rw [hx l (by rw [ho]; simp [Op.operands]), hx c (by rw [ho]; simp [Op.operands])], fun _ _ => soundS_of (s_mkSlice ho ht hi hz hlen), fun h => by rw [ho] at h; simp [loud] at h, fun _ => n_oMkSlice⟩
        · cases h
      · cases h
  · -- slice
    rename_i t x lo hi mx ho
    unfold cSlice at h
    cases ht : sliceT P t with
    | none => rw [ht] at h; cases h
    | some el =>
      rw [ht] at h
      simp only at h
      split at h
      · cases h
      · rename_i hm
        cases hs : sizeT P el with
        | none => rw [hs] at h; cases h
        | some s =>
          rw [hs] at h; injection h with h; subst h
          refine ⟨fr_oSlice, fun e e' cl hx => ?_, fun _ _ => soundS_of (s_slice ho ht hs (Bool.eq_false_iff.mpr hm)), fun h => by rw [ho] at h; simp [loud] at h, fun h => by rw [ho] at h; simp [loud] at h⟩
          show oSlice el s x lo hi mx e cl = oSlice el s x lo hi mx e' cl
          unfold oSlice
          rw [hx x (by rw [ho]; simp [Op.operands])]
          have hop : ∀ z : Option Operand, (∀ y, z = some y → y ∈ o.op.operands.toList) → (Option.rec none (fun y => some (e y)) z : Option Value) = Option.rec none (fun y => some (e' y)) z := fun z hz => by
            cases z with
            | none => rfl
            | some y => exact congrArg some (hx y (hz y rfl))
          rw [hop lo (fun y hy => by rw [ho]; simp [Op.operands, hy]), hop hi (fun y hy => by rw [ho]; simp [Op.operands, hy]), hop mx (fun y hy => by rw [ho]; simp [Op.operands, hy])]
  · -- fieldAddr
    rename_i t x f ho
    unfold cFld at h
    split at h
    · rename_i fields ht
      split at h
      · rename_i fd hf
        cases hs : sizeT P fd.type with
        | none => rw [hs] at h; cases h
        | some s =>
          rw [hs] at h
          simp only [Option.bind_some] at h
          split at h
          · cases h
          · rename_i hn
            injection h with h; subst h
            exact opOk_pure fr_oFld (fun e e' _ hx => by unfold oFld; rw [hx x (by rw [ho]; simp [Op.operands])]) (s_fld ho ht hf hs hn) q_oFld (by rw [ho]; simp [loud])
      · cases h
    · cases h
  · -- field
    rename_i t x f ho
    unfold cPart at h
    split at h
    · rename_i fields ht
      split at h
      · rename_i fd hf
        split at h
        · rename_i s g hs hg
          split at h
          · rename_i hn
            injection h with h; subst h
            exact opOk_pure fr_oPart (fun e e' _ hx => by unfold oPart; rw [hx x (by rw [ho]; simp [Op.operands])]) (s_part ho ht hf hs hg hn) q_oPart (by rw [ho]; simp [loud])
          · cases h
        · cases h
      · cases h
    · cases h
  · -- indexAddr
    rename_i t x i ho
    unfold cIdx at h
    cases ht : sliceT P t with
    | none => rw [ht] at h; cases h
    | some el =>
      rw [ht] at h
      simp only [Option.bind_some] at h
      cases hs : sizeT P el with
      | none => rw [hs] at h; cases h
      | some s =>
        rw [hs] at h; injection h with h; subst h
        exact opOk_pure fr_oIdx (fun e e' cl hx => by show oIdx s x i e cl = oIdx s x i e' cl; unfold oIdx; rw [hx x (by rw [ho]; simp [Op.operands]), hx i (by rw [ho]; simp [Op.operands])]) (s_idx ho ht hs) q_oIdx (by rw [ho]; simp [loud])
  · rename_i x i ho
    injection h with h; subst h
    exact opOk_pure fr_oExt (fun e e' _ hx => by unfold oExt; rw [hx x (by rw [ho]; simp [Op.operands])]) (s_ext ho) q_oExt (by rw [ho]; simp [loud])
  · -- call
    rename_i cc ho
    have hops : ∀ x ∈ cc.args.toList, x ∈ o.op.operands.toList := fun x hx => by
      rw [ho]
      simp only [Op.operands, Call.operands, Array.toList_append]
      exact List.mem_append_right _ hx
    unfold cCall at h
    split at h
    · -- a function
      rename_i f hc
      injection h with h; subst h
      have hf : f ∈ o.op.operands.toList := by rw [ho]; simp [Op.operands, Call.operands, hc]
      exact ⟨fr_oCall, fun e e' _ hx => by unfold oCall; rw [hx f hf, lk_map hx hops], fun cl hcl => s_call hcl ho hc, fun h => by rw [ho, loud_call hc rfl] at h; simp [loudC] at h, fun h => by rw [ho, loud_call hc rfl] at h; simp [loudC] at h⟩
    · rename_i hc
      unfold cLen at h
      split at h
      · rename_i x t ha ht
        cases hs : sliceT P t with
        | none => rw [hs] at h; cases h
        | some el =>
          rw [hs] at h; injection h with h; subst h
          exact opOk_pure fr_oLen (fun e e' cl hx => by show oLen x e cl = oLen x e' cl; unfold oLen; rw [hx x (hops x (by rw [ha]; simp))]) (s_len ho hc ha ht hs) q_oLen (by rw [ho, loud_call hc rfl]; simp [loudC])
      · cases h
    · rename_i hc
      unfold cCap at h
      split at h
      · rename_i x t ha ht
        cases hs : sliceT P t with
        | none => rw [hs] at h; cases h
        | some el =>
          rw [hs] at h; injection h with h; subst h
          exact opOk_pure fr_oCap (fun e e' cl hx => by show oCap x e cl = oCap x e' cl; unfold oCap; rw [hx x (hops x (by rw [ha]; simp))]) (s_cap ho hc ha ht hs) q_oCap (by rw [ho, loud_call hc rfl]; simp [loudC])
      · cases h
    · rename_i hc
      unfold cMin at h
      split at h
      · rename_i x y ha
        injection h with h; subst h
        exact opOk_pure fr_oLeast (fun e e' _ hx => by unfold oLeast; rw [hx x (hops x (by rw [ha]; simp)), hx y (hops y (by rw [ha]; simp))]) (s_least ho hc ha) q_oLeast (by rw [ho, loud_call hc rfl]; simp [loudC])
      · cases h
    · rename_i hc
      unfold cMax at h
      split at h
      · rename_i x y ha
        injection h with h; subst h
        exact opOk_pure fr_oMost (fun e e' _ hx => by unfold oMost; rw [hx x (hops x (by rw [ha]; simp)), hx y (hops y (by rw [ha]; simp))]) (s_most ho hc ha) q_oMost (by rw [ho, loud_call hc rfl]; simp [loudC])
      · cases h
    · rename_i hc
      unfold cAppend at h
      split at h
      · rename_i x y t u ha ht
        split at h
        · rename_i el el2 hs hs2
          split at h
          · rename_i i z hi hz
            split at h
            · rename_i hlen
              injection h with h; subst h
              exact ⟨fr_oAppend, fun e e' _ hx => by unfold oAppend; rw [hx x (hops x (by rw [ha]; simp)), hx y (hops y (by rw [ha]; simp))], fun _ _ => soundS_of (s_append ho hc ha ht hs hs2 hi hz hlen), fun h => by rw [ho, loud_call hc rfl] at h; simp [loudC] at h, fun h => by rw [ho, loud_call hc rfl] at h; simp [loudC] at h⟩
            · cases h
          · cases h
        · cases h
      · cases h
    · rename_i hc
      unfold cCopy at h
      split at h
      · rename_i x y t u ha ht
        split at h
        · rename_i el el2 hs hs2
          cases hz : sizeT P el with
          | none => rw [hz] at h; cases h
          | some s =>
            rw [hz] at h; injection h with h; subst h
            exact ⟨fr_oCopy, fun e e' cl hx => by show oCopy s x y e cl = oCopy s x y e' cl; unfold oCopy; rw [hx x (hops x (by rw [ha]; simp)), hx y (hops y (by rw [ha]; simp))], fun _ _ => soundS_of (s_copy ho hc ha ht hs hs2 hz), fun h => by rw [ho, loud_call hc rfl] at h; simp [loudC] at h, fun h => by rw [ho, loud_call hc rfl] at h; simp [loudC] at h⟩
        · cases h
      · cases h
    · cases h
  · cases h
theorem bad_ok {o : Oper} : OpOk P o oBad := ⟨fr_oBad, fun _ _ _ _ => rfl, fun _ _ => s_bad, fun _ => q_bad, fun _ => fun _ _ _ _ _ _ _ _ _ _ h => by cases h⟩
end
end Go.Proofs.YtedipingocmmdaaGreat.Ev

