/- An evaluator of calls: slices. -/
import Derived.Test.YtedipingocmmdaaGreatEvS5
namespace Go.Proofs.YtedipingocmmdaaGreat.Ev
open Go Go.RowKit

theorem ble_true {a b : Nat} (h : Nat.ble a b = true) : a ≤ b := Nat.le_of_ble_eq_true h
theorem beq_true {a b : Nat} (h : Nat.beq a b = true) : a = b := Nat.eq_of_beq_eq_true h
section
variable {P : Program} {w : World}
theorem run_askRoom (n : Nat) : (askRoom n).run P w = .ok () w := by
  unfold askRoom
  split <;> rfl
theorem run_asInt (k : IntKind) (n : Int) : (asInt (.int k n)).run P w = .ok n w := rfl
theorem s_mkSlice {o : Oper} {t el : TypeId} {x y : Operand} {i : TypeInfo} {z : List Value} (ho : o.op = .makeSlice t x y) (ht : sliceT P t = some el) (hi : P.info? el = some i) (hz : zeroOf P el = some z) (hlen : (z.length == i.size) = true) : SoundO P (oMkSlice el i.size i.bytes z x y) o := by
  intro e cl a base w0 ρ U H w g c l v c' H' l' hx hR hU h
  rw [ho] at hx
  obtain ⟨hx1, -⟩ := hx x (by simp [Op.operands])
  obtain ⟨hy1, -⟩ := hx y (by simp [Op.operands])
  obtain ⟨k1, n1, e1, h⟩ := nat_ok h
  obtain ⟨k2, n2, e2, h⟩ := nat_ok h
  obtain ⟨hb, h⟩ := iff_ok h
  obtain ⟨b1, hb⟩ := andK_true hb
  obtain ⟨b2, hb⟩ := andK_true hb
  obtain ⟨b3, b4⟩ := andK_true hb
  have c1 := ble_true b1
  have c2 := ble_true b2
  have c3 := ble_true b3
  have c4 := ble_true b4
  rw [e1] at hx1
  rw [e2] at hy1
  have hzl : z.length = i.size := by simpa using hlen
  obtain ⟨i', z0, hi', hz0, hzl0, hf⟩ := zero_of hz
  obtain ⟨f1, f2⟩ := flat_all (ρ := ρ) (U := U) hf
  have hnr : ¬ roomy ≤ n2 := by unfold roomy; omega
  have ez : z0.cells = z.toArray := by rw [← hzl0]
  refine goes_new (mk := fun q => .slice (some q) n1 n2) (cs := times n2 z) (ar := (Array.range (n2 * i.size)).map (fun j => z0.cells[j % z0.cells.size]!)) hR hU (fun v hv => f2 v (times_mem hv)) h (by
      rw [ez, Array.toList_map, Array.toList_range, ← hzl, zero_row z (by omega) n2]
      symm
      conv => rhs; rw [← List.map_id (times n2 z)]
      exact List.map_congr_left fun v hv => (flat_ren (U := U) (List.all_eq_true.mp hf v (times_mem hv))).1)
    (fun ρ' U' n hn => ⟨⟨hn, by unfold OkS; rw [if_neg hnr]; exact .inl rfl⟩, by
      show Value.slice (some (renA ρ' ⟨n, 0, none⟩)) n1 (renC ρ' ⟨n, 0, none⟩ n2) = _
      unfold renC; rw [if_neg hnr]; rfl⟩) ?_
  unfold execOp
  rw [ho]
  simp only [hx1, hy1, ren_int]
  refine run_value ?_
  unfold Instr.makeSlice
  rw [run_bind (run_underlying (slice_of ht))]
  simp only
  rw [run_bind (run_asInt _ _), run_bind (run_asInt _ _), run_bind (run_typeInfo hi)]
  have w1 : IntKind.i64.wrap (Int.ofNat n1) = Int.ofNat n1 := wrap_small (.inl rfl) (by omega)
  have w2 : IntKind.i64.wrap (Int.ofNat n2) = Int.ofNat n2 := wrap_small (.inl rfl) (by omega)
  rw [w1, w2]
  have t1 : (decide (Int.ofNat n2 < 0) || decide ((i.bytes : Int) * Int.ofNat n2 > 2 ^ 48)) = false := by
    rw [Bool.or_eq_false_iff]
    refine ⟨decide_eq_false (by simp), decide_eq_false ?_⟩
    have : i.bytes * n2 ≤ 1048576 * 1048576 := Nat.mul_le_mul c3 c2
    have e : ((i.bytes : Int) * Int.ofNat n2) = ((i.bytes * n2 : Nat) : Int) := by push_cast; rfl
    rw [e]; omega
  have t2 : decide (Int.ofNat n1 < 0) = false := decide_eq_false (by simp)
  have t3 : decide (Int.ofNat n1 > Int.ofNat n2) = false := decide_eq_false (by show ¬ (n2 : Int) < (n1 : Int); omega)
  simp only [t1, t2, t3, Bool.or_false, Bool.false_eq_true, if_false]
  show (askRoom _ >>= _).run P w = _
  rw [run_bind (run_askRoom _), run_bind (show (sizeOf el).run P w = .ok i.size w from run_sizeOf (by unfold sizeT; rw [hi]; rfl))]
  simp only [show (Int.ofNat n2).toNat = n2 from rfl, show (Int.ofNat n1).toNat = n1 from rfl]
  by_cases h0 : n2 * i.size = 0
  · rw [if_pos h0, run_bind (run_pure _)]
    have e3 : (Array.range (n2 * i.size)).map (fun x => (#[] : Array Value)[x % (#[] : Array Value).size]!) = (Array.range (n2 * i.size)).map (fun j => z0.cells[j % z0.cells.size]!) := by rw [h0]; simp
    rw [e3]
    rfl
  · rw [if_neg h0, run_bind (run_zeroValue hi' hz0), run_bind (run_pure _)]
    rfl
theorem run_bound {k : IntKind} {n y : Nat} {code : BoundsCode} (h : n ≤ y) : (Instr.sliceBound (.int k (Int.ofNat n)) y code).run P w = .ok n w := by
  unfold Instr.sliceBound
  show ((pure (k, Int.ofNat n) : Sem (IntKind × Int)) >>= _).run P w = _
  rw [run_bind (run_pure _)]
  simp only
  rw [if_pos ⟨Int.natCast_nonneg n, by show (n : Int) ≤ (y : Int); omega⟩]
  rfl
/-- An optional bound. -/
def IsNat (d : Nat) (x : Option Value) (n : Nat) : Prop := (x = none ∧ n = d) ∨ ∃ k, x = some (.int k (Int.ofNat n))
theorem run_bounds {len cap l h m : Nat} {lo hi mx : Option Value} (hl : IsNat 0 lo l) (hh : IsNat len hi h) (hm : IsNat cap mx m) (h1 : l ≤ h) (h2 : h ≤ m) (h3 : m ≤ cap) (h4 : mx.isSome = true → hi.isSome = true) :
    (Instr.sliceBounds true len cap lo hi mx).run P w = .ok (l, h, m) w := by
  rcases hm with ⟨rfl, rfl⟩ | ⟨k1, rfl⟩ <;> rcases hh with ⟨rfl, rfl⟩ | ⟨k2, rfl⟩ <;> rcases hl with ⟨rfl, rfl⟩ | ⟨k3, rfl⟩ <;>
    first
    | (unfold Instr.sliceBounds
       simp only
       first | rw [run_bind (run_bound h3)] | rw [run_bind (run_pure _)]
       first | rw [run_bind (run_bound h2)] | rw [run_bind (run_pure _)]
       first | rw [run_bind (run_bound h1)] | rw [run_bind (run_pure _)]
       rfl)
    | (have := h4 rfl; cases this)

theorem add_zero_at {b : Nat} {o : Nat} {s : Option Nat} : (Addr.mk b o s).add 0 = ⟨b, o, s⟩ := rfl
/-- A slice expression. -/
theorem run_sliceAt {t el : TypeId} {size len cap l h m : Nat} {a : Option Addr} {lo hi mx : Option Value} (ht : sliceT P t = some el) (hs : sizeT P el = some size) (hl : IsNat 0 lo l) (hh : IsNat len hi h) (hm : IsNat cap mx m) (h1 : l ≤ h) (h2 : h ≤ m) (h3 : m ≤ cap) (h4 : mx.isSome = true → hi.isSome = true) :
    (Instr.sliceAt t (.slice a len cap) lo hi mx).run P w = .ok (.slice (if m = l then a else a.map (·.add (l * size))) (h - l) (m - l)) w := by
  unfold Instr.sliceAt
  rw [run_bind (run_underlying (slice_of ht))]
  show (Instr.slice t (.slice a len cap) lo hi mx).run P w = _
  unfold Instr.slice
  rw [run_bind (run_underlying (slice_of ht))]
  show (Instr.sliceBounds true len cap lo hi mx >>= _).run P w = _
  rw [run_bind (run_bounds hl hh hm h1 h2 h3 h4)]
  show (sizeOf el >>= _).run P w = _
  rw [run_bind (run_sizeOf hs)]
  rfl
theorem natOr_ok {d : Nat} {x : Option Value} {k : Nat → M Value} {g : Bool} {c : Nat} {H : Mem} {l : Log} {y : Value} {c' : Nat} {H' : Mem} {l' : Log} (h : natOr d x k g c H l = .ok y c' H' l') : ∃ n, IsNat d x n ∧ k n g c H l = .ok y c' H' l' := by
  cases x with
  | none => exact ⟨d, .inl ⟨rfl, rfl⟩, h⟩
  | some v => obtain ⟨kd, n, rfl, h⟩ := nat_ok (show onNat v .fail k g c H l = .ok y c' H' l' from h); exact ⟨n, .inr ⟨kd, rfl⟩, h⟩
section
variable {base : Nat} {w0 : World} {ρ : Nat → Loc} {U : Nat → Prop} {H : Mem}
/-- Part of a slice whose capacity is known. -/
theorem sliceK_sound {size cap l h m n0 : Nat} {a : Option Addr} {g : Bool} {c : Nat} {lg : Log} {v : Value} {c' : Nat} {H' : Mem} {l' : Log} (hv : sliceK size a cap l h m g c H lg = .ok v c' H' l') (hcap : m < roomy) (hU : ∀ q, a = some q → U q.block)
    (hsp : ∀ q, a = some q → q.spot = none ∨ n0 = 0) :
    c' = c ∧ H' = H ∧ l ≤ h ∧ h ≤ m ∧ m ≤ cap ∧ Ok ρ U v ∧ ren ρ v = .slice (if m = l then a.map (renA ρ) else (a.map (renA ρ)).map (·.add (l * size))) (h - l) (m - l) := by
  obtain ⟨hb, hv⟩ := iff_ok hv
  obtain ⟨b1, hb⟩ := andK_true hb
  obtain ⟨b2, b3⟩ := andK_true hb
  have c1 := ble_true b1
  have c2 := ble_true b2
  have c3 := ble_true b3
  have hnr : ¬ roomy ≤ m - l := by unfold roomy at hcap ⊢; omega
  cases a with
  | none =>
    obtain ⟨rfl, rfl, rfl, rfl⟩ := ret_ok (show M.ret (.slice none (h - l) (m - l)) g c H lg = .ok v c' H' l' from hv)
    refine ⟨rfl, rfl, c1, c2, c3, trivial, ?_⟩
    split <;> rfl
  | some a =>
    obtain ⟨b, o, s⟩ := a
    have hb2 := hU _ rfl
    cases s with
    | none =>
      replace hv : M.ret (.slice (some (Bool.rec ⟨b, Nat.add o (Nat.mul l size), none⟩ ⟨b, o, none⟩ (Nat.beq m l))) (h - l) (m - l)) g c H lg = .ok v c' H' l' := hv
      obtain ⟨rfl, rfl, rfl, rfl⟩ := ret_ok hv
      rcases beq_cases m l with ⟨e, e2⟩ | ⟨e, e2⟩
      · rw [e]
        refine ⟨rfl, rfl, c1, c2, c3, ⟨hb2, by unfold OkS; rw [if_neg hnr]; exact .inl rfl⟩, ?_⟩
        show Value.slice (some (renA ρ ⟨b, o, none⟩)) (h - l) (renC ρ ⟨b, o, none⟩ (m - l)) = _
        unfold renC
        rw [if_neg hnr, if_pos e2]
        rfl
      · rw [e]
        refine ⟨rfl, rfl, c1, c2, c3, ⟨hb2, by unfold OkS; rw [if_neg hnr]; exact .inl rfl⟩, ?_⟩
        show Value.slice (some (renA ρ ⟨b, o + l * size, none⟩)) (h - l) (renC ρ ⟨b, o + l * size, none⟩ (m - l)) = _
        unfold renC
        rw [if_neg hnr, if_neg e2]
        show _ = Value.slice (some ((Addr.mk (ρ b).blk o none).add (l * size))) _ _
        rw [add_at]
        rfl
    | some s =>
      obtain ⟨e, hv⟩ := iff_ok (show M.iff (Nat.beq m 0) (.ret (.slice (some ⟨b, o, some s⟩) 0 0)) g c H lg = .ok v c' H' l' from hv)
      obtain ⟨rfl, rfl, rfl, rfl⟩ := ret_ok hv
      have hm0 := beq_true e
      have hl0 : l = 0 := by omega
      have hh0 : h = 0 := by omega
      subst hm0 hl0 hh0
      refine ⟨rfl, rfl, c1, c2, c3, ⟨hb2, by unfold OkS; rw [if_neg (by unfold roomy; omega)]; exact .inr rfl⟩, ?_⟩
      show Value.slice (some (renA ρ ⟨b, o, some s⟩)) 0 (renC ρ ⟨b, o, some s⟩ 0) = _
      unfold renC
      rw [if_neg (by unfold roomy; omega), if_pos rfl]
      rfl
end
end
end Go.Proofs.YtedipingocmmdaaGreat.Ev

