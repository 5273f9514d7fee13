/- An evaluator of calls: its operations go as the program's do: numbers, addresses, parts. -/
import Derived.Test.YtedipingocmmdaaGreatEvS
namespace Go.Proofs.YtedipingocmmdaaGreat.Ev
open Go Go.RowKit

section
variable {P : Program} {w : World}
theorem run_underlying {t : TypeId} {d : TypeDesc} (h : P.underlying t = some d) : (underlying t).run P w = .ok d w := by
  unfold underlying program
  simp [bind, Sem.bind, Sem.run, h, pure]
theorem run_typeInfo {t : TypeId} {i : TypeInfo} (h : P.info? t = some i) : (typeInfo t).run P w = .ok i w := by
  unfold typeInfo program
  simp [bind, Sem.bind, Sem.run, h, pure]
theorem run_sizeOf {t : TypeId} {s : Nat} (h : sizeT P t = some s) : (sizeOf t).run P w = .ok s w := by
  unfold sizeT at h
  cases hi : P.info? t with
  | none => rw [hi] at h; cases h
  | some i =>
    rw [hi] at h
    injection h with h
    unfold sizeOf
    show (typeInfo t >>= fun i => pure i.size).run P w = _
    rw [run_bind (run_typeInfo hi)]
    exact congrArg (fun x => Result.ok x w) h
theorem run_isAgg {t : TypeId} {b : Bool} (h : aggT P t = some b) : (isAgg t).run P w = .ok b w := by
  unfold aggT at h
  cases hu : P.underlying t with
  | none => rw [hu] at h; cases h
  | some d =>
    rw [hu] at h
    injection h with h
    unfold isAgg
    show (underlying t >>= _).run P w = _
    rw [run_bind (run_underlying hu), ← h]
    cases d <;> rfl
theorem slice_of {t e : TypeId} (h : sliceT P t = some e) : P.underlying t = some (.slice e) := by
  unfold sliceT at h
  split at h
  · rename_i x hx; injection h with h; rw [hx, h]
  · cases h
theorem run_pure {α : Type} (x : α) : (pure x : Sem α).run P w = .ok x w := rfl

theorem s_chk {o : Oper} {x : Operand} (ho : o.op = .nilCheck x) : SoundO P (oChk x) o := by
  intro e cl a base w0 ρ U H w g c l v c' H' l' hx hR _ h
  rw [ho] at hx
  obtain ⟨h1, h2⟩ := hx x (by simp [Op.operands])
  unfold oChk at h
  generalize e x = y at *
  cases y with
  | pointer q =>
    cases q with
    | none => cases h
    | some q =>
      obtain ⟨rfl, rfl, rfl, rfl⟩ := ret_ok (show M.ret (.pointer (some q)) g c H l = .ok v c' H' l' from h)
      refine goes_same hR h2 ?_
      unfold execOp
      rw [ho]
      simp only [h1]
      rfl
  | func f p q =>
    cases f with
    | func f =>
      obtain ⟨rfl, rfl, rfl, rfl⟩ := ret_ok (show M.ret (.func (.func f) p q) g c H l = .ok v c' H' l' from h)
      refine goes_same hR h2 ?_
      unfold execOp
      rw [ho]
      simp only [h1]
      obtain ⟨p⟩ := p
      obtain ⟨q⟩ := q
      rfl
    | _ => cases h
  | _ => cases h
theorem s_not {o : Oper} {t : TypeId} {x : Operand} (ho : o.op = .unOp .not t x) : SoundO P (oNot x) o := by
  intro e cl a base w0 ρ U H w g c l v c' H' l' hx hR _ h
  rw [ho] at hx
  obtain ⟨h1, h2⟩ := hx x (by simp [Op.operands])
  obtain ⟨b, hb, h⟩ := bool_ok h
  obtain ⟨rfl, rfl, rfl, rfl⟩ := ret_ok h
  rw [hb] at h1
  refine goes_same hR trivial ?_
  unfold execOp
  rw [ho]
  simp only [h1]
  cases b <;> rfl
theorem wrap_i64 (n : Int) : IntKind.i64.wrap n = if (9223372036854775808 : Int) ≤ n % 18446744073709551616 then n % 18446744073709551616 - 18446744073709551616 else n % 18446744073709551616 := by
  unfold IntKind.wrap
  simp [IntKind.bits, IntKind.signed]
theorem wrap_u64 (n : Int) : IntKind.u64.wrap n = n % 18446744073709551616 := by
  unfold IntKind.wrap
  simp [IntKind.bits, IntKind.signed]
theorem wrapK_eq (k : IntKind) (n : Int) : wrapK k n = k.wrap n := by
  cases k with
  | i64 =>
    cases n with
    | ofNat m =>
      show (Bool.rec _ _ (Nat.blt m 9223372036854775808) : Int) = _
      rcases blt_cases m 9223372036854775808 with ⟨h, h2⟩ | ⟨h, _⟩ <;> rw [h]
      rw [wrap_i64]
      show (m : Int) = _
      have e : Int.ofNat m = (m : Int) := rfl
      rw [e]
      split <;> omega
    | negSucc m =>
      show (Bool.rec _ _ (Nat.blt m 9223372036854775808) : Int) = _
      rcases blt_cases m 9223372036854775808 with ⟨h, h2⟩ | ⟨h, _⟩ <;> rw [h]
      rw [wrap_i64]
      show Int.negSucc m = _
      split <;> omega
  | u64 =>
    cases n with
    | ofNat m =>
      show (Bool.rec _ _ (Nat.blt m 18446744073709551616) : Int) = _
      rcases blt_cases m 18446744073709551616 with ⟨h, h2⟩ | ⟨h, _⟩ <;> rw [h]
      rw [wrap_u64]
      show (m : Int) = _
      have e : Int.ofNat m = (m : Int) := rfl
      rw [e]
      omega
    | negSucc m => rfl
  | _ => rfl
/-- A call of a builtin function. -/
theorem run_builtin {o : Oper} {cc : Call} {a : Act} {b : Builtin} (ho : o.op = .call cc) (hc : cc.callee = .builtin b) {r : Result Next} (h : ∀ k, (builtin b cc.argTypes o.type k (cc.args.map a.eval)).run P w = r) : (execOp a.eval o).run P w = r := by
  unfold execOp
  rw [ho]
  simp only
  have hres : ∃ k, (resolve a.eval cc o.type).run P w = .ok { target := .builtin b cc.argTypes o.type k, args := cc.args.map a.eval } w := by
    unfold resolve
    rw [hc]
    exact ⟨_, rfl⟩
  obtain ⟨k, hk⟩ := hres
  rw [run_bind hk]
  exact h k
theorem s_conv {o : Oper} {s d : TypeId} {j k : IntKind} {x : Operand} (ho : o.op = .convert s d x) (hs : P.underlying s = some (.int j)) (hd : P.underlying d = some (.int k)) : SoundO P (oConv k x) o := by
  intro e cl a base w0 ρ U H w g c l v c' H' l' hx hR _ h
  rw [ho] at hx
  obtain ⟨h1, h2⟩ := hx x (by simp [Op.operands])
  obtain ⟨j', n, hb, h⟩ := int_ok h
  obtain ⟨rfl, rfl, rfl, rfl⟩ := ret_ok h
  rw [hb] at h1
  refine goes_same hR trivial ?_
  unfold execOp
  rw [ho]
  simp only [h1]
  refine run_value ?_
  unfold convert
  show (underlying s >>= fun _ => underlying d >>= _).run P w = _
  rw [run_bind (run_underlying hs), run_bind (run_underlying hd)]
  show (Conv.intToInt k n).run P w = _
  unfold Conv.intToInt
  rw [wrapK_eq]
  rfl
theorem s_mkFn {o : Oper} {f : FuncId} {p q : Array Operand} (ho : o.op = .makeFunc (.func f) p q) : SoundO P (oMkFn f p.toList q.toList) o := by
  intro e cl a base w0 ρ U H w g c l v c' H' l' hx hR _ h
  obtain ⟨rfl, rfl, rfl, rfl⟩ := ret_ok h
  rw [ho] at hx
  simp only [Op.operands, Array.toList_append] at hx
  have h1 : ∀ x ∈ p.toList, a.eval x = ren ρ (e x) ∧ Ok ρ U (e x) := fun x hm => hx x (List.mem_append_left _ hm)
  have h2 : ∀ x ∈ q.toList, a.eval x = ren ρ (e x) ∧ Ok ρ U (e x) := fun x hm => hx x (List.mem_append_right _ hm)
  rw [mapK_eq, mapK_eq]
  refine goes_same hR ⟨(okL_eq _ _ _).mpr fun v hv => ?_, (okL_eq _ _ _).mpr fun v hv => ?_⟩ ?_
  · obtain ⟨x, hm, rfl⟩ := List.mem_map.mp hv; exact (h1 x hm).2
  · obtain ⟨x, hm, rfl⟩ := List.mem_map.mp hv; exact (h2 x hm).2
  · unfold execOp
    rw [ho]
    simp only
    refine run_value ?_
    show Result.ok (Value.func (.func f) (p.map a.eval) (q.map a.eval)) w = .ok (.func (.func f) ⟨renL ρ (p.toList.map e)⟩ ⟨renL ρ (q.toList.map e)⟩) w
    have e1 : p.map a.eval = ⟨renL ρ (p.toList.map e)⟩ := by
      apply Array.toList_inj.mp
      rw [Array.toList_map]
      show _ = renL ρ (p.toList.map e)
      rw [renL_eq, List.map_map]
      exact List.map_congr_left fun x hm => (h1 x hm).1
    have e2 : q.map a.eval = ⟨renL ρ (q.toList.map e)⟩ := by
      apply Array.toList_inj.mp
      rw [Array.toList_map]
      show _ = renL ρ (q.toList.map e)
      rw [renL_eq, List.map_map]
      exact List.map_congr_left fun x hm => (h2 x hm).1
    rw [e1, e2]
theorem s_fld {o : Oper} {t : TypeId} {x : Operand} {f : Nat} {fields : Array Field} {fd : Field} {s : Nat} (ho : o.op = .fieldAddr t x f) (ht : P.underlying t = some (.struct fields)) (hf : fields.toList[f]? = some fd) (hs : sizeT P fd.type = some s) (hn : s ≠ 0) : SoundO P (oFld fd.offset x) o := by
  intro e cl a base w0 ρ U H w g c l v c' H' l' hx hR _ h
  rw [ho] at hx
  obtain ⟨h1, h2⟩ := hx x (by simp [Op.operands])
  obtain ⟨b, q, hb, h⟩ := ptr_ok h
  obtain ⟨rfl, rfl, rfl, rfl⟩ := ret_ok h
  rw [hb] at h1 h2
  refine goes_same hR h2 ?_
  unfold execOp
  rw [ho]
  simp only [h1]
  refine run_value ?_
  unfold Instr.fieldAt
  show (underlying t >>= _).run P w = _
  rw [run_bind (run_underlying ht)]
  have hf2 : fields[f]? = some fd := by rw [← hf]; simp
  simp only [hf2]
  show ((pure (renA ρ ⟨b, q, none⟩) : Sem Addr) >>= _).run P w = _
  rw [run_bind (run_pure _)]
  show ((fieldPlace (renA ρ ⟨b, q, none⟩) fd) >>= fun y => pure (Value.pointer (some y))).run P w = _
  have hp : (fieldPlace (renA ρ ⟨b, q, none⟩) fd).run P w = .ok ((renA ρ ⟨b, q, none⟩).add fd.offset) w := by
    unfold fieldPlace
    show (sizeOf fd.type >>= _).run P w = _
    rw [run_bind (run_sizeOf hs), if_neg hn]; rfl
  rw [run_bind hp]
  show Result.ok (Value.pointer (some ((Addr.mk (ρ b).blk q none).add fd.offset))) w = _
  rw [add_at]; rfl
theorem s_ext {o : Oper} {x : Operand} {i : Nat} (ho : o.op = .extract x i) : SoundO P (oExt i x) o := by
  intro e cl a base w0 ρ U H w g c l v c' H' l' hx hR _ h
  rw [ho] at hx
  obtain ⟨h1, h2⟩ := hx x (by simp [Op.operands])
  unfold oExt at h
  generalize e x = y at *
  cases y with
  | tuple vs =>
    replace h : nth .fail M.ret i vs.toList g c H l = .ok v c' H' l' := h
    rw [nth_eq] at h
    cases hi : vs.toList[i]? with
    | none => rw [hi] at h; cases h
    | some u =>
      rw [hi] at h
      obtain ⟨rfl, rfl, rfl, rfl⟩ := ret_ok h
      obtain ⟨vs⟩ := vs
      refine goes_same hR ((okL_eq ρ U vs).mp h2 v (List.mem_of_getElem? hi)) ?_
      unfold execOp
      rw [ho]
      simp only [h1]
      refine run_value ?_
      show (Instr.extract (.tuple ⟨renL ρ vs⟩) i).run P w = _
      unfold Instr.extract
      have e2 : (Array.mk (renL ρ vs))[i]? = some (ren ρ v) := by
        rw [renL_eq]
        simp only [List.getElem?_toArray, List.getElem?_map]
        rw [show vs[i]? = some v from hi]; rfl
      simp only [e2]
      rfl
  | _ => cases h
theorem s_len {o : Oper} {cc : Call} {x : Operand} {t e' : TypeId} (ho : o.op = .call cc) (hc : cc.callee = .builtin .len) (ha : cc.args.toList = [x]) (ht : cc.argTypes.toList = [t]) (hs : sliceT P t = some e') : SoundO P (oLen x) o := by
  intro e cl a base w0 ρ U H w g c l v c' H' l' hx hR _ h
  have ea : cc.args = #[x] := by apply Array.toList_inj.mp; rw [ha]
  have et : cc.argTypes = #[t] := by apply Array.toList_inj.mp; rw [ht]
  rw [ho] at hx
  obtain ⟨h1, h2⟩ := hx x (by simp [Op.operands, Call.operands, hc, ea])
  obtain ⟨q, n, m, hb, h⟩ := slice_ok h
  obtain ⟨rfl, rfl, rfl, rfl⟩ := ret_ok h
  rw [hb] at h1
  refine goes_same hR trivial ?_
  refine run_builtin ho hc fun k => ?_
  rw [ea, et, show (#[x] : Array Operand).map a.eval = #[a.eval x] by simp]
  show (builtin .len #[t] o.type k #[a.eval x]).run P w = _
  unfold builtin
  simp only
  refine run_value ?_
  unfold Builtin.len_
  simp only [h1, List.getElem?_toArray, List.getElem?_cons_zero]
  rw [run_bind (run_underlying (slice_of hs))]
  cases q <;> rfl
theorem s_cap {o : Oper} {cc : Call} {x : Operand} {t e' : TypeId} (ho : o.op = .call cc) (hc : cc.callee = .builtin .cap) (ha : cc.args.toList = [x]) (ht : cc.argTypes.toList = [t]) (hs : sliceT P t = some e') : SoundO P (oCap x) o := by
  intro e cl a base w0 ρ U H w g c l v c' H' l' hx hR _ h
  have ea : cc.args = #[x] := by apply Array.toList_inj.mp; rw [ha]
  have et : cc.argTypes = #[t] := by apply Array.toList_inj.mp; rw [ht]
  rw [ho] at hx
  obtain ⟨h1, h2⟩ := hx x (by simp [Op.operands, Call.operands, hc, ea])
  obtain ⟨q, n, m, hb, h⟩ := slice_ok h
  rcases ble_cases 18446744073709551616 m with ⟨hm, _⟩ | ⟨hm, hlt⟩
  · replace h : (Bool.rec (M.ret (.int .i64 (.ofNat m))) .fail (Nat.ble 18446744073709551616 m) : M Value) g c H l = .ok v c' H' l' := h
    rw [hm] at h; cases h
  replace h : (Bool.rec (M.ret (.int .i64 (.ofNat m))) .fail (Nat.ble 18446744073709551616 m) : M Value) g c H l = .ok v c' H' l' := h
  rw [hm] at h
  obtain ⟨rfl, rfl, rfl, rfl⟩ := ret_ok (show M.ret (.int .i64 (.ofNat m)) g c H l = .ok v c' H' l' from h)
  rw [hb] at h1
  refine goes_same hR trivial ?_
  refine run_builtin ho hc fun k => ?_
  rw [ea, et, show (#[x] : Array Operand).map a.eval = #[a.eval x] by simp]
  show (builtin .cap #[t] o.type k #[a.eval x]).run P w = _
  unfold builtin
  simp only
  refine run_value ?_
  unfold Builtin.cap_
  simp only [h1, List.getElem?_toArray, List.getElem?_cons_zero]
  rw [run_bind (run_underlying (slice_of hs))]
  cases q with
  | none => rfl
  | some q =>
    show Result.ok (goInt (renC ρ q m)) w = _
    unfold renC
    rw [if_neg (by unfold roomy; omega)]
    rfl

/-- A comparison with nil. -/
theorem run_eq {o : Oper} {op : BinOp} {t u : TypeId} {x y : Operand} {neg b : Bool} {a : Act} (ho : o.op = .binOp op t x y u) (hop : op = if neg then .neq else .eql) {p q : Value} (hp : a.eval x = p) (hq : a.eval y = q)
    (hk : ∀ op, eqGuard op t x y p q = pure ()) (hb : binOp .eql t p q = (Op.equal t p q >>= fun r => pure (.bool r))) (hb2 : binOp .neq t p q = (Op.equal t p q >>= fun r => pure (.bool (!r)))) (he : (Op.equal t p q).run P w = .ok b w) : (execOp a.eval o).run P w = .ok (.value (.bool (xor neg b))) w := by
  unfold execOp
  rw [ho]
  simp only [hp, hq]
  refine run_value ?_
  rw [hk]
  show ((pure () : Sem Unit) >>= fun _ => binOp op t p q).run P w = _
  rw [run_bind (run_pure _)]
  subst hop
  cases neg
  · show (binOp .eql t p q).run P w = _
    rw [hb, run_bind he]
    simp [pure]
  · show (binOp .neq t p q).run P w = _
    rw [hb2, run_bind he]
    simp [pure]
theorem s_nilP {o : Oper} {op : BinOp} {t u d : TypeId} {x y z : Operand} {neg : Bool} (ho : o.op = .binOp op t x y u) (hop : op = if neg then .neq else .eql) (ht : P.underlying t = some (.pointer d))
    (hz : (isNilP y = true ∧ z = x) ∨ (isNilP x = true ∧ z = y)) : SoundO P (oNilP neg z) o := by
  intro e cl a base w0 ρ U H w g c l v c' H' l' hx hR _ h
  rw [ho] at hx
  obtain ⟨hx1, -⟩ := hx x (by simp [Op.operands])
  obtain ⟨hy1, -⟩ := hx y (by simp [Op.operands])
  have hc : ∀ u, isNilP u = true → a.eval u = .pointer none := fun u hu => by
    unfold isNilP at hu
    split at hu
    · rfl
    · cases hu
  obtain ⟨q, hq, h⟩ : ∃ q, e z = .pointer q ∧ M.ret (.bool (xor neg (isNone q))) g c H l = .ok v c' H' l' := by
    unfold oNilP at h
    generalize e z = y at *
    cases y <;> first | exact ⟨_, rfl, h⟩ | cases h
  obtain ⟨rfl, rfl, rfl, rfl⟩ := ret_ok h
  have hun : ∀ D (p r : Option Addr), (p = none ∨ r = none) → (Op.equalIn (D + 1) t (.pointer p) (.pointer r)).run P w = .ok (isNone p && isNone r) w := fun D p r hpr => by
    unfold Op.equalIn
    rw [run_bind (run_underlying ht)]
    rcases hpr with rfl | rfl
    · cases r <;> rfl
    · cases p <;> rfl
  have hren : ∀ q : Option Addr, ∃ q', ren ρ (.pointer q) = .pointer q' ∧ isNone q' = isNone q := fun q => by cases q <;> exact ⟨_, rfl, rfl⟩
  obtain ⟨q', hq1, hq2⟩ := hren q
  refine goes_same hR trivial ?_
  rcases hz with ⟨hy, rfl⟩ | ⟨hy, rfl⟩
  · have h1 : a.eval z = .pointer q' := by rw [hx1, hq, hq1]
    refine (run_eq (b := isNone q' && isNone (none : Option Addr)) ho hop h1 (hc y hy) (fun op => by cases op <;> rfl) rfl rfl (hun 9999 q' none (.inr rfl))).trans ?_
    rw [hq2]
    cases isNone q <;> rfl
  · have h1 : a.eval z = .pointer q' := by rw [hy1, hq, hq1]
    refine (run_eq (b := isNone (none : Option Addr) && isNone q') ho hop (hc x hy) h1 (fun op => by cases op <;> rfl) rfl rfl (hun 9999 none q' (.inl rfl))).trans ?_
    rw [hq2]
    cases isNone q <;> rfl
theorem s_nilS {o : Oper} {op : BinOp} {t u d : TypeId} {x y z : Operand} {neg : Bool} (ho : o.op = .binOp op t x y u) (hop : op = if neg then .neq else .eql) (ht : P.underlying t = some (.slice d))
    (hz : (isNilS y = true ∧ z = x) ∨ (isNilS x = true ∧ z = y)) : SoundO P (oNilS neg z) o := by
  intro e cl a base w0 ρ U H w g c l v c' H' l' hx hR _ h
  rw [ho] at hx
  obtain ⟨hx1, -⟩ := hx x (by simp [Op.operands])
  obtain ⟨hy1, -⟩ := hx y (by simp [Op.operands])
  have hc : ∀ u, isNilS u = true → ∃ n m, a.eval u = .slice none n m := fun u hu => by
    unfold isNilS at hu
    split at hu
    · exact ⟨_, _, rfl⟩
    · cases hu
  obtain ⟨q, n, m, hq, h⟩ := slice_ok h
  obtain ⟨rfl, rfl, rfl, rfl⟩ := ret_ok h
  have hun : ∀ D (p r : Option Addr) (n1 m1 n2 m2 : Nat), (p = none ∨ r = none) → (Op.equalIn (D + 1) t (.slice p n1 m1) (.slice r n2 m2)).run P w = .ok (isNone p && isNone r) w := fun D p r n1 m1 n2 m2 hpr => by
    unfold Op.equalIn
    rw [run_bind (run_underlying ht)]
    rcases hpr with rfl | rfl
    · cases r <;> rfl
    · cases p <;> rfl
  have hren : ∃ q' m', ren ρ (.slice q n m) = .slice q' n m' ∧ isNone q' = isNone q := by cases q <;> exact ⟨_, _, rfl, rfl⟩
  obtain ⟨q', m', hq1, hq2⟩ := hren
  refine goes_same hR trivial ?_
  rcases hz with ⟨hy, rfl⟩ | ⟨hy, rfl⟩
  · have h1 : a.eval z = .slice q' n m' := by rw [hx1, hq, hq1]
    obtain ⟨n2, m2, h2⟩ := hc y hy
    refine (run_eq (b := isNone q' && isNone (none : Option Addr)) ho hop h1 h2 (fun op => by cases op <;> rfl) rfl rfl (hun 9999 q' none _ _ _ _ (.inr rfl))).trans ?_
    rw [hq2]
    cases isNone q <;> rfl
  · have h1 : a.eval z = .slice q' n m' := by rw [hy1, hq, hq1]
    obtain ⟨n2, m2, h2⟩ := hc x hy
    refine (run_eq (b := isNone (none : Option Addr) && isNone q') ho hop h2 h1 (fun op => by cases op <;> rfl) rfl rfl (hun 9999 none q' _ _ _ _ (.inl rfl))).trans ?_
    rw [hq2]
    cases isNone q <;> rfl
theorem s_part {o : Oper} {t : TypeId} {x : Operand} {f : Nat} {fields : Array Field} {fd : Field} {s : Nat} {gg : Bool} (ho : o.op = .field t x f) (ht : P.underlying t = some (.struct fields)) (hf : fields.toList[f]? = some fd) (hs : sizeT P fd.type = some s) (hg : aggT P fd.type = some gg)
    (hn : (gg || s == 1) = true) : SoundO P (oPart fd.offset s gg x) o := by
  intro e cl a base w0 ρ U H w g c l v c' H' l' hx hR _ h
  rw [ho] at hx
  obtain ⟨h1, h2⟩ := hx x (by simp [Op.operands])
  unfold oPart at h
  generalize e x = y at *
  cases y with
  | agg cs =>
    obtain ⟨cs⟩ := cs
    obtain ⟨hl, h⟩ := cut_ok (show cut fd.offset s cs .fail (fun r => valOf gg r .fail M.ret) g c H l = .ok v c' H' l' from h)
    obtain ⟨rfl, rfl, rfl, hv⟩ := valOf_ok h
    have hsub : ∀ u ∈ (cs.drop fd.offset).take s, u ∈ cs := fun u hu => List.mem_of_mem_drop (List.mem_of_mem_take hu)
    have hOk : Ok ρ U v := by
      rcases hv with ⟨_, rfl⟩ | ⟨_, hv⟩
      · exact ⟨(okL_eq _ _ _).mpr fun u hu => (okL_eq ρ U cs).mp h2.1 u (hsub u hu), fun u hu => h2.2 u (hsub u hu)⟩
      · exact (okL_eq ρ U cs).mp h2.1 v (hsub v (by rw [hv]; exact List.mem_singleton.mpr rfl))
    refine goes_same hR hOk ?_
    unfold execOp
    rw [ho]
    simp only [h1]
    refine run_value ?_
    show (Instr.field t (.agg ⟨renL ρ cs⟩) f).run P w = _
    unfold Instr.field
    rw [run_bind (run_underlying ht)]
    have hf2 : fields[f]? = some fd := by rw [← hf]; simp
    simp only [hf2]
    show ((pure (Array.mk (renL ρ cs)) : Sem (Array Value)) >>= fun q => part fd.type q fd.offset).run P w = _
    rw [run_bind (run_pure _)]
    unfold part
    rw [run_bind (run_isAgg hg)]
    rcases hv with ⟨rfl, rfl⟩ | ⟨rfl, hv⟩
    · rw [if_pos rfl, run_bind (run_sizeOf hs)]
      show Result.ok (Value.agg ((Array.mk (renL ρ cs)).extract fd.offset (fd.offset + s))) w = .ok (Value.agg ⟨renL ρ ((cs.drop fd.offset).take s)⟩) w
      have e2 : (Array.mk (renL ρ cs)).extract fd.offset (fd.offset + s) = ⟨renL ρ ((cs.drop fd.offset).take s)⟩ := by
        apply Array.toList_inj.mp
        rw [Array.toList_extract]
        simp only [renL_eq, List.extract_eq_take_drop, List.map_take, List.map_drop]
        congr 1
        omega
      rw [e2]
    · rw [if_neg (by simp)]
      have hi : cs[fd.offset]? = some v := by
        have hh := congrArg List.head? hv
        rw [List.head?_take] at hh
        have hs1 : s ≠ 0 := by rintro rfl; simp at hv
        rw [if_neg hs1, List.head?_drop] at hh
        exact hh
      have e2 : (Array.mk (renL ρ cs))[fd.offset]? = some (ren ρ v) := by
        rw [renL_eq]
        simp only [List.getElem?_toArray, List.getElem?_map]
        rw [hi]; rfl
      simp only [e2]
      rfl
  | _ => cases h
theorem s_idx {o : Oper} {t e' : TypeId} {x i : Operand} {s : Nat} (ho : o.op = .indexAddr t x i) (ht : sliceT P t = some e') (hs : sizeT P e' = some s) : SoundO P (oIdx s x i) o := by
  intro e cl a base w0 ρ U H w g c l v c' H' l' hx hR _ h
  rw [ho] at hx
  obtain ⟨h1, h2⟩ := hx x (by simp [Op.operands])
  obtain ⟨h3, h4⟩ := hx i (by simp [Op.operands])
  obtain ⟨q, n, m, hb, h⟩ := slice_ok h
  obtain ⟨b, p, rfl, h⟩ := addr_ok h
  obtain ⟨kd, j, hj, h⟩ := nat_ok h
  obtain ⟨hlt, h⟩ := iff_ok h
  obtain ⟨rfl, rfl, rfl, rfl⟩ := ret_ok h
  rw [hb] at h1 h2
  rw [hj] at h3
  have hlt2 : j < n := by
    rcases blt_cases j n with ⟨_, h⟩ | ⟨h, _⟩
    · exact h
    · rw [h] at hlt; cases hlt
  refine goes_same hR ⟨h2.1, rfl⟩ ?_
  unfold execOp
  rw [ho]
  simp only [h1, h3, ren_int]
  refine run_value ?_
  show (Instr.indexAt t (.slice (some ⟨(ρ b).blk, p, none⟩) n (renC ρ ⟨b, p, none⟩ m)) (.int kd (Int.ofNat j))).run P w = _
  unfold Instr.indexAt
  rw [run_bind (show (asIntOf (.int kd (Int.ofNat j))).run P w = .ok (kd, Int.ofNat j) w from rfl)]
  simp only
  rw [run_bind (run_underlying (slice_of ht))]
  simp only
  show ((pure (some (⟨(ρ b).blk, p, none⟩ : Addr), n, e') : Sem (Option Addr × Nat × TypeId)) >>= _).run P w = _
  rw [run_bind (run_pure _), run_bind (run_underlying (slice_of ht))]
  simp only
  rw [if_pos ⟨Int.natCast_nonneg j, by show (j : Int) < (n : Int); omega⟩, run_bind (run_sizeOf hs)]
  show Result.ok (Value.pointer (some ((Addr.mk (ρ b).blk p none).add (j * s)))) w = _
  rw [add_at]
  rfl
end
end Go.Proofs.YtedipingocmmdaaGreat.Ev

