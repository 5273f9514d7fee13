/- An evaluator of calls: copies, appends. -/
import Derived.Test.YtedipingocmmdaaGreatEvS7
namespace Go.Proofs.YtedipingocmmdaaGreat.Ev
open Go Go.RowKit

section
variable {P : Program} {w : World} {base : Nat} {w0 : World} {ρ : Nat → Loc} {U : Nat → Prop} {H : Mem}
/-- A slice's cells are read. -/
theorem readS_ok (hR : Rel P base w0 ρ U H w) {size n : Nat} {a : Option Addr} {k : List Value → M Value} {g : Bool} {c : Nat} {l : Log} {v : Value} {c' : Nat} {H' : Mem} {l' : Log} (h : readS size a n k g c H l = .ok v c' H' l') :
    ∃ cs l2, k cs g c H l2 = .ok v c' H' l' ∧ (∀ u ∈ cs, Ok ρ U u ∧ one u) ∧ cs.length = n * size ∧ (∀ (w' : World) n2 c2, w'.heap = w.heap → (Builtin.firstCells size n (.slice (a.map (renA ρ)) n2 c2)).run P w' = .ok (cs.map (ren ρ)).toArray w') ∧
      (0 < n → ∃ b o x, a = some ⟨b, o, none⟩ ∧ H.get b = some x ∧ cs = (x.cells.drop o).take (n * size)) := by
  cases n with
  | zero =>
    refine ⟨[], l, h, fun u hu => (by cases hu), by simp, fun w' n2 c2 _ => ?_, fun h => absurd h (by omega)⟩
    cases a with
    | none => rfl
    | some a =>
      show (loadCells _ (0 * size)).run P w' = _
      rw [Nat.zero_mul]; rfl
  | succ n =>
    obtain ⟨b, o, rfl, h⟩ := addr_ok (show (onAddr a .fail (fun b o => .read b fun x => cut o (Nat.mul (Nat.succ n) size) x.cells .fail k) : M Value) g c H l = .ok v c' H' l' from h)
    obtain ⟨x, l2, hx, h⟩ := read_ok h
    obtain ⟨hl, h⟩ := cut_ok h
    obtain ⟨hcs, rest, hrow, -, -⟩ := hR.row b x hx
    refine ⟨_, l2, h, fun u hu => hcs u (List.mem_of_mem_drop (List.mem_of_mem_take hu)), ?_, fun w' n2 c2 hw => ?_, fun _ => ⟨b, o, x, rfl, hx, rfl⟩⟩
    · rw [List.length_take]; exact Nat.min_eq_left hl
    · rw [← hw] at hrow
      show (loadCells ⟨(ρ b).blk, o, none⟩ ((n + 1) * size)).run P w' = _
      have hl2 : (n + 1) * size ≤ (x.cells.drop o).length := hl
      rw [List.length_drop] at hl2
      by_cases h0 : (n + 1) * size = 0
      · show _ = Result.ok (((x.cells.drop o).take ((n + 1) * size)).map (ren ρ)).toArray w'
        rw [h0]; rfl
      · rw [show (loadCells ⟨(ρ b).blk, o, none⟩ ((n + 1) * size)).run P w' = _ from run_loadCells hrow o ((n + 1) * size) 0 #[] (by rw [List.length_append, List.length_map]; omega)]
        show Result.ok (#[] ++ (((x.cells.map (ren ρ) ++ rest).drop (o + 0)).take ((n + 1) * size)).toArray) w' = Result.ok (((x.cells.drop o).take ((n + 1) * size)).map (ren ρ)).toArray w'
        rw [Nat.add_zero, take_front (by rw [List.length_drop, List.length_map]; omega) (by omega), List.map_take, List.map_drop]
        simp
theorem s_copy {o : Oper} {cc : Call} {x y : Operand} {t u el el2 : TypeId} {size : Nat} (ho : o.op = .call cc) (hc : cc.callee = .builtin .copy) (ha : cc.args.toList = [x, y]) (ht : cc.argTypes.toList = [t, u]) (hs : sliceT P t = some el) (_hs2 : sliceT P u = some el2) (hz : sizeT P el = some size) : SoundO P (oCopy size x y) o := by
  intro e cl a base w0 ρ U H w g c l v c' H' l' hx hR _ h
  have ea : cc.args = #[x, y] := by apply Array.toList_inj.mp; rw [ha]
  have et : cc.argTypes = #[t, u] := by apply Array.toList_inj.mp; rw [ht]
  rw [ho] at hx
  obtain ⟨hx1, hx2⟩ := hx x (by simp [Op.operands, Call.operands, hc, ea])
  obtain ⟨hy1, hy2⟩ := hx y (by simp [Op.operands, Call.operands, hc, ea])
  obtain ⟨q, dl, dc, e1, h⟩ := slice_ok h
  obtain ⟨ya, n, yc, e2, h⟩ := slice_ok h
  rw [e1] at hx1 hx2
  rw [e2] at hy1
  have hmin : (Bool.rec dl n (Nat.ble n dl) : Nat) = Nat.min n dl := by
    rcases ble_cases n dl with ⟨h1, h2⟩ | ⟨h1, h2⟩ <;> rw [h1]
    · exact (Nat.min_eq_left h2).symm
    · exact (Nat.min_eq_right (Nat.le_of_lt h2)).symm
  have rx : ∀ (q : Option Addr) (n c : Nat), ∃ c2, ren ρ (.slice q n c) = .slice (q.map (renA ρ)) n c2 := fun q n c => by cases q <;> exact ⟨_, rfl⟩
  obtain ⟨dc2, r1⟩ := rx q dl dc
  obtain ⟨yc2, r2⟩ := rx ya n yc
  rw [r1] at hx1
  rw [r2] at hy1
  replace h : (Nat.rec (.ret (.int .i64 (.ofNat 0))) (fun m' _ => readS size ya (Nat.succ m') fun new => onAddr q .fail fun b o => storeM b o new (.ret (.int .i64 (.ofNat (Nat.succ m'))))) (Bool.rec dl n (Nat.ble n dl) : Nat) : M Value) g c H l = .ok v c' H' l' := h
  rw [hmin] at h
  have start : ∀ {r : Result Value}, ((do
      let cells ← Builtin.firstCells size (Nat.min n dl) (.slice (ya.map (renA ρ)) n yc2)
      if let some a := q.map (renA ρ) then storeCells a cells.toList
      pure (goInt (Nat.min n dl)) : Sem Value).run P w = r) → (Builtin.copy_ #[t, u] o.type #[.slice (q.map (renA ρ)) dl dc2, .slice (ya.map (renA ρ)) n yc2]).run P w = r := fun {r} hr => by
    unfold Builtin.copy_
    simp only [List.getElem?_toArray, List.getElem?_cons_zero, List.getElem?_cons_succ]
    rw [run_bind (run_underlying (slice_of hs))]
    simp only
    show (Builtin.lenOf (.slice (ya.map (renA ρ)) n yc2) >>= _).run P w = _
    rw [run_bind (show (Builtin.lenOf (.slice (ya.map (renA ρ)) n yc2)).run P w = .ok n w from rfl), run_bind (run_sizeOf hz)]
    exact hr
  have exec : ∀ {r : Result Next}, (∀ k, (builtin .copy #[t, u] o.type k #[.slice (q.map (renA ρ)) dl dc2, .slice (ya.map (renA ρ)) n yc2]).run P w = r) → (execOp a.eval o).run P w = r := fun {r} hr => run_builtin ho hc fun k => by
    rw [ea, et, show (#[x, y] : Array Operand).map a.eval = #[a.eval x, a.eval y] by simp, hx1, hy1]
    exact hr k
  generalize hm : Nat.min n dl = m at h start
  cases m with
  | zero =>
    obtain ⟨rfl, rfl, rfl, rfl⟩ := ret_ok (show M.ret (.int .i64 (.ofNat 0)) g c H l = .ok v c' H' l' from h)
    refine goes_same hR trivial (exec fun k => ?_)
    unfold builtin
    simp only
    refine run_value (start ?_)
    have h0 : (Builtin.firstCells size 0 (.slice (ya.map (renA ρ)) n yc2)).run P w = .ok #[] w := by
      cases ya with
      | none => rfl
      | some a =>
        show (loadCells _ (0 * size)).run P w = _
        rw [Nat.zero_mul]; rfl
    rw [run_bind h0]
    cases q <;> rfl
  | succ m =>
    obtain ⟨cs, l2, h, hcs, hlen, hrun, -⟩ := readS_ok hR (show readS size ya (m + 1) (fun new => onAddr q .fail fun b o => storeM b o new (.ret (.int .i64 (.ofNat (Nat.succ m))))) g c H l = .ok v c' H' l' from h)
    obtain ⟨b, p, rfl, h⟩ := addr_ok h
    obtain ⟨k, H1, l3, h16, hk, hl, hH, h⟩ := store_ok h
    obtain ⟨rfl, rfl, rfl, rfl⟩ := ret_ok h
    obtain ⟨w', hst, hrel⟩ := run_store (k' := ⟨k.elem, overL p cs k.cells, k.opn⟩) hR h16 hk hl hcs ⟨rfl, rfl, rfl⟩ hH
    refine ⟨ρ, U, w', _, .refl, fun _ h => .inl h, hrel, trivial, exec fun k => ?_, .inl rfl⟩
    unfold builtin
    simp only
    refine run_value (start ?_)
    rw [run_bind (hrun w n yc2 rfl)]
    show (storeCells ⟨(ρ b).blk, p, none⟩ (cs.map (ren ρ)) >>= fun _ => pure (goInt ((m + 1 : Nat) : Int))).run P w = _
    rw [run_bind hst]
    rfl
theorem grow_small (need c : Nat) (h : c < need) : Builtin.nextslicecap need c ≤ 2 * need + 1024 := by
  unfold Builtin.nextslicecap
  have hg : ∀ r x, x ≤ 2 * need + 1024 → Builtin.growBy need r x ≤ 2 * need + 1024 := fun r => by
    induction r with
    | zero => intro x hx; exact hx
    | succ r ih =>
      intro x hx
      unfold Builtin.growBy
      split
      · exact hx
      · exact ih _ (by omega)
  split
  · omega
  · split
    · omega
    · exact hg 4 c (by omega)
end
end Go.Proofs.YtedipingocmmdaaGreat.Ev

