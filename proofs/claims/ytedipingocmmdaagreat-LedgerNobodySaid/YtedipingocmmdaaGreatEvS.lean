/- An evaluator of calls: its operations go as the program's do: those that make no row. -/
import Derived.Test.YtedipingocmmdaaGreatEvR1
namespace Go.Proofs.YtedipingocmmdaaGreat.Ev
open Go Go.RowKit

section
variable {ρ : Nat → Loc} {U : Nat → Prop}
theorem flat_ren {v : Value} (h : flatB v = true) : ren ρ v = v ∧ Ok ρ U v ∧ one v := by
  cases v with
  | pointer a => cases a <;> first | exact ⟨rfl, trivial, trivial⟩ | cases h
  | slice a n c => cases a <;> first | exact ⟨rfl, trivial, trivial⟩ | cases h
  | map a => cases a <;> first | exact ⟨rfl, trivial, trivial⟩ | cases h
  | chan a => cases a <;> first | exact ⟨rfl, trivial, trivial⟩ | cases h
  | agg _ => cases h
  | tuple _ => cases h
  | func _ _ _ => cases h
  | iface _ _ => cases h
  | _ => exact ⟨rfl, trivial, trivial⟩
theorem flat_all {l : List Value} (h : l.all flatB = true) : l.map (ren ρ) = l ∧ ∀ v ∈ l, Ok ρ U v ∧ one v := by
  rw [List.all_eq_true] at h
  exact ⟨by conv => rhs; rw [← List.map_id l]
            exact List.map_congr_left fun v hv => (flat_ren (U := U) (h v hv)).1, fun v hv => (flat_ren (h v hv)).2⟩
theorem cellsOf_eq (v : Value) : cellsOf v = match v with | .agg cs => cs.toList | .tuple _ => [] | v => [v] := by cases v <;> rfl
theorem cells_ren {v : Value} (h : cellsOf v ≠ []) : (ren ρ v).cells.toList = (cellsOf v).map (ren ρ) := by
  cases v with
  | pointer a => cases a <;> rfl
  | slice a n c => cases a <;> rfl
  | agg cs => obtain ⟨cs⟩ := cs; show renL ρ cs = cs.map (ren ρ); exact renL_eq ρ cs
  | tuple cs => exact absurd rfl h
  | func f a b => cases a; cases b; rfl
  | _ => rfl
theorem cells_ok {v : Value} (h : Ok ρ U v) : ∀ x ∈ cellsOf v, Ok ρ U x ∧ one x := by
  intro x hx
  cases v with
  | agg cs => obtain ⟨cs⟩ := cs; exact ⟨(okL_eq ρ U cs).mp h.1 x hx, h.2 x hx⟩
  | tuple cs => cases hx
  | _ =>
    have e := List.mem_singleton.mp hx
    subst e
    exact ⟨h, trivial⟩
theorem ren_undef : ren ρ undef = undef := rfl
theorem ok_undef : Ok ρ U undef := trivial
theorem ren_bool (b : Bool) : ren ρ (.bool b) = .bool b := rfl
theorem ren_int (k : IntKind) (n : Int) : ren ρ (.int k n) = .int k n := rfl
end

/-- An operation goes: to a value, in a world in which the memory behind it stands. -/
def Goes (P : Program) (o : Oper) (a : Act) (base : Nat) (w0 : World) (ρ : Nat → Loc) (U : Nat → Prop) (w : World) (c c' : Nat) (H' : Mem) (v : Value) : Prop :=
  ∃ ρ' U' w' nx, More ρ U ρ' U' ∧ (∀ j, U' j → U j ∨ (c ≤ j ∧ j < c')) ∧ Rel P base w0 ρ' U' H' w' ∧ Ok ρ' U' v ∧ (execOp a.eval o).run P w = .ok nx w' ∧ (nx = .value (ren ρ' v) ∨ (nx = .skip ∧ v = undef))
/-- The operands of an operation, in the frame. -/
def Opnds (ρ : Nat → Loc) (U : Nat → Prop) (e : Operand → Value) (a : Act) (xs : List Operand) : Prop := ∀ x ∈ xs, a.eval x = ren ρ (e x) ∧ Ok ρ U (e x)
/-- An operation that is no call goes as the program's does. -/
def SoundO (P : Program) (op : Opn) (o : Oper) : Prop :=
  ∀ (e : Operand → Value) (cl : CL) (a : Act) (base : Nat) (w0 : World) (ρ : Nat → Loc) (U : Nat → Prop) (H : Mem) (w : World) (g : Bool) (c : Nat) (l : Log) (v : Value) (c' : Nat) (H' : Mem) (l' : Log),
    Opnds ρ U e a o.op.operands.toList → Rel P base w0 ρ U H w → (∀ n, c ≤ n → n < c' → ¬ U n) → op e cl g c H l = .ok v c' H' l' → Goes P o a base w0 ρ U w c c' H' v

theorem ret_ok {α : Type} {x y : α} {g : Bool} {c c' : Nat} {H H' : Mem} {l l' : Log} (h : M.ret x g c H l = .ok y c' H' l') : y = x ∧ c' = c ∧ H' = H ∧ l' = l := by
  injection h with h1 h2 h3 h4
  exact ⟨h1.symm, h2.symm, h3.symm, h4.symm⟩
section
variable {P : Program} {o : Oper} {a : Act} {base : Nat} {w0 : World} {ρ : Nat → Loc} {U : Nat → Prop} {w : World} {c : Nat} {H : Mem} {v : Value}
/-- Nothing is made, nothing is written. -/
theorem goes_same (hR : Rel P base w0 ρ U H w) (hv : Ok ρ U v) (h : (execOp a.eval o).run P w = .ok (.value (ren ρ v)) w) : Goes P o a base w0 ρ U w c c H v :=
  ⟨ρ, U, w, _, .refl, fun _ h => .inl h, hR, hv, h, .inl rfl⟩
theorem run_value {s : Sem Value} {x : Value} {w w1 : World} (h : s.run P w = .ok x w1) : (do pure (Next.value (← s)) : Sem Next).run P w = .ok (.value x) w1 := by
  show (s >>= fun y => Sem.pure (Next.value y)).run P w = _
  rw [run_bind h]; rfl
end
theorem iff_ok {α : Type} {b : Bool} {m : M α} {g : Bool} {c : Nat} {H : Mem} {l : Log} {y : α} {c' : Nat} {H' : Mem} {l' : Log} (h : M.iff b m g c H l = .ok y c' H' l') : b = true ∧ m g c H l = .ok y c' H' l' := by
  cases b
  · cases h
  · exact ⟨rfl, h⟩
theorem bool_ok {α : Type} {v : Value} {k : Bool → M α} {g : Bool} {c : Nat} {H : Mem} {l : Log} {y : α} {c' : Nat} {H' : Mem} {l' : Log} (h : onBool v .fail k g c H l = .ok y c' H' l') : ∃ b, v = .bool b ∧ k b g c H l = .ok y c' H' l' := by
  cases v <;> first | cases h | exact ⟨_, rfl, h⟩
theorem int_ok {α : Type} {v : Value} {k : IntKind → Int → M α} {g : Bool} {c : Nat} {H : Mem} {l : Log} {y : α} {c' : Nat} {H' : Mem} {l' : Log} (h : onInt v .fail k g c H l = .ok y c' H' l') : ∃ a b, v = .int a b ∧ k a b g c H l = .ok y c' H' l' := by
  cases v <;> first | cases h | exact ⟨_, _, rfl, h⟩
theorem nat_ok {α : Type} {v : Value} {k : Nat → M α} {g : Bool} {c : Nat} {H : Mem} {l : Log} {y : α} {c' : Nat} {H' : Mem} {l' : Log} (h : onNat v .fail k g c H l = .ok y c' H' l') : ∃ kd n, v = .int kd (Int.ofNat n) ∧ k n g c H l = .ok y c' H' l' := by
  obtain ⟨kd, n, rfl, h⟩ := int_ok h
  cases n <;> first | cases h | exact ⟨_, _, rfl, h⟩
theorem slice_ok {α : Type} {v : Value} {k : Option Addr → Nat → Nat → M α} {g : Bool} {c : Nat} {H : Mem} {l : Log} {y : α} {c' : Nat} {H' : Mem} {l' : Log} (h : onSlice v .fail k g c H l = .ok y c' H' l') : ∃ a n m, v = .slice a n m ∧ k a n m g c H l = .ok y c' H' l' := by
  cases v <;> first | cases h | exact ⟨_, _, _, rfl, h⟩
theorem addr_ok {α : Type} {a : Option Addr} {k : Nat → Nat → M α} {g : Bool} {c : Nat} {H : Mem} {l : Log} {y : α} {c' : Nat} {H' : Mem} {l' : Log} (h : onAddr a .fail k g c H l = .ok y c' H' l') : ∃ b o, a = some ⟨b, o, none⟩ ∧ k b o g c H l = .ok y c' H' l' := by
  cases a with
  | none => cases h
  | some a => obtain ⟨b, o, s⟩ := a; cases s with
    | none => exact ⟨b, o, rfl, h⟩
    | some _ => cases h
theorem ptr_ok {α : Type} {v : Value} {k : Nat → Nat → M α} {g : Bool} {c : Nat} {H : Mem} {l : Log} {y : α} {c' : Nat} {H' : Mem} {l' : Log} (h : onPtr v .fail k g c H l = .ok y c' H' l') : ∃ b o, v = .pointer (some ⟨b, o, none⟩) ∧ k b o g c H l = .ok y c' H' l' := by
  cases v with
  | pointer a => obtain ⟨b, o, rfl, h⟩ := addr_ok (show onAddr a .fail k g c H l = .ok y c' H' l' from h); exact ⟨b, o, rfl, h⟩
  | _ => cases h
theorem cut_ok {α β : Type} {o n : Nat} {xs : List β} {k : List β → M α} {g : Bool} {c : Nat} {H : Mem} {l : Log} {y : α} {c' : Nat} {H' : Mem} {l' : Log} (h : cut o n xs .fail k g c H l = .ok y c' H' l') : n ≤ (xs.drop o).length ∧ k ((xs.drop o).take n) g c H l = .ok y c' H' l' := by
  rw [cut_eq] at h
  split at h
  · exact ⟨by assumption, h⟩
  · cases h
theorem valOf_ok {gg : Bool} {cs : List Value} {g : Bool} {c : Nat} {H : Mem} {l : Log} {y : Value} {c' : Nat} {H' : Mem} {l' : Log} (h : valOf gg cs .fail M.ret g c H l = .ok y c' H' l') :
    c' = c ∧ H' = H ∧ l' = l ∧ ((gg = true ∧ y = .agg ⟨cs⟩) ∨ (gg = false ∧ cs = [y])) := by
  cases gg
  · cases cs with
    | nil => cases h
    | cons v r => cases r with
      | nil => obtain ⟨rfl, rfl, rfl, rfl⟩ := ret_ok (show M.ret v g c H l = .ok y c' H' l' from h); exact ⟨rfl, rfl, rfl, .inr ⟨rfl, rfl⟩⟩
      | cons _ _ => cases h
  · obtain ⟨rfl, rfl, rfl, rfl⟩ := ret_ok (show M.ret (.agg ⟨cs⟩) g c H l = .ok y c' H' l' from h); exact ⟨rfl, rfl, rfl, .inl ⟨rfl, rfl⟩⟩
theorem read_ok {α : Type} {n : Nat} {k : Blk → M α} {g : Bool} {c : Nat} {H : Mem} {l : Log} {y : α} {c' : Nat} {H' : Mem} {l' : Log} (h : M.read n k g c H l = .ok y c' H' l') : ∃ b l2, H.get n = some b ∧ k b g c H l2 = .ok y c' H' l' := by
  cases g
  · obtain ⟨b, hb, h2⟩ := read0_ok (show M.read0 n k false c H l = .ok y c' H' l' from h); exact ⟨b, _, hb, h2⟩
  · obtain ⟨b, hb, h2⟩ := read0_ok (show M.read0 n k true c H _ = .ok y c' H' l' from h); exact ⟨b, _, hb, h2⟩

section
variable {P : Program}
theorem s_mv {o : Oper} {x : Operand} (ho : o.op = .move x ∨ o.op = .assign x) : SoundO P (oMv x) o := by
  intro e cl a base w0 ρ U H w g c l v c' H' l' hx hR _ h
  obtain ⟨rfl, rfl, rfl, rfl⟩ := ret_ok h
  have hm : x ∈ o.op.operands.toList := by rcases ho with h | h <;> rw [h] <;> simp [Op.operands]
  obtain ⟨h1, h2⟩ := hx x hm
  refine goes_same hR h2 ?_
  unfold execOp
  rcases ho with h | h <;> rw [h] <;> simp only [h1] <;> rfl
theorem s_pick {o : Oper} {x y z : Operand} (ho : o.op = .pick x y z) : SoundO P (oPick x y z) o := by
  intro e cl a base w0 ρ U H w g c l v c' H' l' hx hR _ h
  obtain ⟨b, hb, h⟩ := bool_ok h
  obtain ⟨rfl, rfl, rfl, rfl⟩ := ret_ok h
  rw [ho] at hx
  have h1 := hx x (by simp [Op.operands])
  have h2 := hx y (by simp [Op.operands])
  have h3 := hx z (by simp [Op.operands])
  rw [hb] at h1
  cases b
  · refine goes_same hR h3.2 ?_
    unfold execOp
    rw [ho]
    simp only [h1.1, ren_bool, h2.1, h3.1]
    rfl
  · refine goes_same hR h2.2 ?_
    unfold execOp
    rw [ho]
    simp only [h1.1, ren_bool, h2.1, h3.1]
    rfl
theorem s_beq {o : Oper} {op : BinOp} {t u : TypeId} {x y : Operand} {neg : Bool} (ho : o.op = .binOp op t x y u) (hop : op = if neg then .neq else .eql) (ht : P.underlying t = some .bool) : SoundO P (oBeq neg x y) o := by
  intro e cl a base w0 ρ U H w g c l v c' H' l' hx hR _ h
  obtain ⟨p, hp, h⟩ := bool_ok h
  obtain ⟨q, hq, h⟩ := bool_ok h
  obtain ⟨rfl, rfl, rfl, rfl⟩ := ret_ok h
  rw [ho] at hx
  have h1 := hx x (by simp [Op.operands])
  have h2 := hx y (by simp [Op.operands])
  rw [hp] at h1
  rw [hq] at h2
  refine goes_same hR trivial ?_
  unfold execOp
  rw [ho]
  simp only [h1.1, h2.1, ren_bool]
  subst hop
  have hu : ∀ d, (Op.equalIn (d + 1) t (.bool p) (.bool q)).run P w = .ok (p == q) w := fun d => by
    unfold Op.equalIn
    have : (underlying t).run P w = .ok .bool w := by
      show (Sem.run P (underlying t) w) = _
      unfold underlying program
      simp [bind, Sem.bind, Sem.run, ht, pure]
    show (underlying t >>= _).run P w = _
    rw [run_bind this]
    rfl
  have hu2 : (Op.equal t (.bool p) (.bool q)).run P w = .ok (p == q) w := hu 9999
  cases neg
  · refine run_value ?_
    show ((pure () : Sem Unit) >>= fun _ => (Op.equal t (.bool p) (.bool q) >>= fun r => pure (Value.bool r))).run P w = _
    rw [run_bind (show (pure () : Sem Unit).run P w = .ok () w from rfl), run_bind hu2]
    simp [pure]
  · refine run_value ?_
    show ((pure () : Sem Unit) >>= fun _ => (Op.equal t (.bool p) (.bool q) >>= fun r => pure (Value.bool (!r)))).run P w = _
    rw [run_bind (show (pure () : Sem Unit).run P w = .ok () w from rfl), run_bind hu2]
    simp [pure]
end
end Go.Proofs.YtedipingocmmdaaGreat.Ev

