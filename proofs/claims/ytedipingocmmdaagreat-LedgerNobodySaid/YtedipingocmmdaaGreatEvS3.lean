/- An evaluator of calls: its operations on numbers go as the program's do. -/
import Derived.Test.YtedipingocmmdaaGreatEvS2
namespace Go.Proofs.YtedipingocmmdaaGreat.Ev
open Go Go.RowKit

theorem addK_eq (a b : Int) : addK a b = a + b := by cases a <;> cases b <;> rfl
theorem mulK_eq (a b : Int) : mulK a b = a * b := by cases a <;> cases b <;> rfl
theorem subK_eq (a b : Int) : subK a b = a - b := by
  cases a with
  | ofNat m => cases b with
    | ofNat n =>
      show (Bool.rec _ _ (Nat.ble n m) : Int) = _
      rcases ble_cases n m with ⟨h, h2⟩ | ⟨h, _⟩ <;> rw [h]
      show Int.ofNat (m - n) = (m : Int) - (n : Int)
      have : Int.ofNat (m - n) = ((m - n : Nat) : Int) := rfl
      rw [this]; omega
    | negSucc n => rfl
  | negSucc m => rfl
theorem eqK_eq (a b : Int) : eqK a b = (a == b) := by
  have e : (a == b) = decide (a = b) := rfl
  rw [e]
  cases a with
  | ofNat m => cases b with
    | ofNat n =>
      show Nat.beq m n = _
      rcases beq_cases m n with ⟨h, h2⟩ | ⟨h, h2⟩ <;> rw [h]
      · exact (decide_eq_true (show (m : Int) = (n : Int) by omega)).symm
      · exact (decide_eq_false (show ¬ (m : Int) = (n : Int) by omega)).symm
    | negSucc n => show false = _; simp
  | negSucc m => cases b with
    | ofNat n => show false = _; simp
    | negSucc n =>
      show Nat.beq m n = _
      rcases beq_cases m n with ⟨h, h2⟩ | ⟨h, h2⟩ <;> rw [h]
      · exact (decide_eq_true (show Int.negSucc m = Int.negSucc n by rw [h2])).symm
      · exact (decide_eq_false (show ¬ Int.negSucc m = Int.negSucc n by omega)).symm
theorem leK_eq (a b : Int) : leK a b = decide (a ≤ b) := by
  cases a with
  | ofNat m => cases b with
    | ofNat n =>
      show Nat.ble m n = _
      rcases ble_cases m n with ⟨h, h2⟩ | ⟨h, h2⟩ <;> rw [h]
      · exact (decide_eq_true (show (m : Int) ≤ (n : Int) by omega)).symm
      · exact (decide_eq_false (show ¬ (m : Int) ≤ (n : Int) by omega)).symm
    | negSucc n => exact (decide_eq_false (show ¬ (m : Int) ≤ Int.negSucc n by omega)).symm
  | negSucc m => cases b with
    | ofNat n => exact (decide_eq_true (show Int.negSucc m ≤ (n : Int) by omega)).symm
    | negSucc n =>
      show Nat.ble n m = _
      rcases ble_cases n m with ⟨h, h2⟩ | ⟨h, h2⟩ <;> rw [h]
      · exact (decide_eq_true (show Int.negSucc m ≤ Int.negSucc n by omega)).symm
      · exact (decide_eq_false (show ¬ Int.negSucc m ≤ Int.negSucc n by omega)).symm
theorem notK_eq (b : Bool) : notK b = !b := by cases b <;> rfl
theorem sameK_eq {a b : IntKind} (h : sameK a b = true) : a = b ∧ (a = .i64 ∨ a = .u64) := by cases a <;> cases b <;> first | exact ⟨rfl, .inl rfl⟩ | exact ⟨rfl, .inr rfl⟩ | cases h
theorem wideK_eq {a : IntKind} (h : wideK a = true) : a = .i64 ∨ a = .u64 := by cases a <;> first | exact .inl rfl | exact .inr rfl | cases h
theorem wrap_small {k : IntKind} (hk : k = .i64 ∨ k = .u64) {n : Nat} (h : n < 9223372036854775808) : k.wrap (Int.ofNat n) = Int.ofNat n := by
  rw [← wrapK_eq]
  rcases hk with rfl | rfl
  · show (Bool.rec _ _ (Nat.blt n 9223372036854775808) : Int) = _
    rcases blt_cases n 9223372036854775808 with ⟨e, _⟩ | ⟨_, e⟩
    · rw [e]
    · omega
  · show (Bool.rec _ _ (Nat.blt n 18446744073709551616) : Int) = _
    rcases blt_cases n 18446744073709551616 with ⟨e, _⟩ | ⟨_, e⟩
    · rw [e]
    · omega
section
variable {P : Program} {w : World}
/-- What an operation on numbers comes to. -/
def BinOk (P : Program) (w : World) (op : BinOp) (t : TypeId) (k j : IntKind) (a b : Int) (v : Value) : Prop := flatB v = true ∧ (binOp op t (.int k a) (.int j b)).run P w = .ok v w
theorem bit_ok {f : Nat → Nat → Nat} {a b : Int} {k : Int → M Value} {g : Bool} {c : Nat} {H : Mem} {l : Log} {v : Value} {c' : Nat} {H' : Mem} {l' : Log} (h : bitK f a b .fail k g c H l = .ok v c' H' l') :
    ∃ m n : Nat, a = Int.ofNat m ∧ b = Int.ofNat n ∧ m < 9223372036854775808 ∧ n < 9223372036854775808 ∧ k (Int.ofNat (f m n)) g c H l = .ok v c' H' l' := by
  cases a with
  | ofNat m => cases b with
    | ofNat n =>
      replace h : (Bool.rec .fail (k (.ofNat (f m n))) (andK (Nat.blt m 9223372036854775808) (Nat.blt n 9223372036854775808)) : M Value) g c H l = .ok v c' H' l' := h
      cases hb : andK (Nat.blt m 9223372036854775808) (Nat.blt n 9223372036854775808) with
      | false => rw [hb] at h; cases h
      | true =>
        rw [hb] at h
        obtain ⟨h1, h2⟩ := andK_true hb
        rcases blt_cases m 9223372036854775808 with ⟨_, h3⟩ | ⟨h3, _⟩
        · rcases blt_cases n 9223372036854775808 with ⟨_, h4⟩ | ⟨h4, _⟩
          · exact ⟨m, n, rfl, rfl, h3, h4, h⟩
          · rw [h4] at h2; cases h2
        · rw [h3] at h1; cases h1
    | negSucc _ => cases h
  | negSucc _ => cases h
theorem div_ok {f : Nat → Nat → Nat} {a b : Int} {k : Int → M Value} {g : Bool} {c : Nat} {H : Mem} {l : Log} {v : Value} {c' : Nat} {H' : Mem} {l' : Log} (h : divK f a b .fail k g c H l = .ok v c' H' l') :
    ∃ m n : Nat, a = Int.ofNat m ∧ b = Int.ofNat (n + 1) ∧ k (Int.ofNat (f m (n + 1))) g c H l = .ok v c' H' l' := by
  cases a with
  | ofNat m => cases b with
    | ofNat n => cases n <;> first | cases h | exact ⟨m, _, rfl, rfl, h⟩
    | negSucc _ => cases h
  | negSucc _ => cases h
theorem shl_ok {kd : IntKind} {a b : Int} {k : Int → M Value} {g : Bool} {c : Nat} {H : Mem} {l : Log} {v : Value} {c' : Nat} {H' : Mem} {l' : Log} (h : shlK kd a b .fail k g c H l = .ok v c' H' l') :
    ∃ m n : Nat, a = Int.ofNat m ∧ b = Int.ofNat n ∧ n < 64 ∧ k (wrapK kd (Int.ofNat (m * 2 ^ n))) g c H l = .ok v c' H' l' := by
  cases a with
  | ofNat m => cases b with
    | ofNat n =>
      replace h : (Bool.rec .fail (k (wrapK kd (.ofNat (Nat.mul m (Nat.pow 2 n))))) (Nat.blt n 64) : M Value) g c H l = .ok v c' H' l' := h
      rcases blt_cases n 64 with ⟨h1, h2⟩ | ⟨h1, _⟩
      · rw [h1] at h; exact ⟨m, n, rfl, rfl, h2, h⟩
      · rw [h1] at h; cases h
    | negSucc _ => cases h
  | negSucc _ => cases h
theorem shr_ok {a b : Int} {k : Int → M Value} {g : Bool} {c : Nat} {H : Mem} {l : Log} {v : Value} {c' : Nat} {H' : Mem} {l' : Log} (h : shrK a b .fail k g c H l = .ok v c' H' l') :
    ∃ m n : Nat, a = Int.ofNat m ∧ b = Int.ofNat n ∧ n < 64 ∧ k (Int.ofNat (m / 2 ^ n)) g c H l = .ok v c' H' l' := by
  cases a with
  | ofNat m => cases b with
    | ofNat n =>
      replace h : (Bool.rec .fail (k (.ofNat (Nat.div m (Nat.pow 2 n)))) (Nat.blt n 64) : M Value) g c H l = .ok v c' H' l' := h
      rcases blt_cases n 64 with ⟨h1, h2⟩ | ⟨h1, _⟩
      · rw [h1] at h; exact ⟨m, n, rfl, rfl, h2, h⟩
      · rw [h1] at h; cases h
    | negSucc _ => cases h
  | negSucc _ => cases h
theorem bits64 {k : IntKind} (hk : k = .i64 ∨ k = .u64) : k.bits = 64 := by rcases hk with rfl | rfl <;> rfl
theorem ofInt_small {b m : Nat} (hb : b = 64) (h : m < 9223372036854775808) : (BitVec.ofInt b (Int.ofNat m)).toNat = m := by
  subst hb
  rw [BitVec.toNat_ofInt]
  have e : Int.ofNat m = (m : Int) := rfl
  rw [e]
  omega
theorem bin_sound {op : BinOp} {t : TypeId} {k j : IntKind} {a b : Int} {g : Bool} {c : Nat} {H : Mem} {l : Log} {v : Value} {c' : Nat} {H' : Mem} {l' : Log} (hk : kindsK op k j = true) (h : binK op k a b .fail M.ret g c H l = .ok v c' H' l') :
    c' = c ∧ H' = H ∧ l' = l ∧ BinOk P w op t k j a b v := by
  cases op
  case add =>
    obtain ⟨rfl, rfl, rfl, rfl⟩ := ret_ok (show M.ret (.int k (wrapK k (addK a b))) g c H l = .ok v c' H' l' from h)
    obtain ⟨rfl, _⟩ := sameK_eq (show sameK k j = true from hk)
    refine ⟨rfl, rfl, rfl, rfl, ?_⟩
    rw [wrapK_eq, addK_eq]
    unfold binOp; simp [Op.intArith, pure]
  case sub =>
    obtain ⟨rfl, rfl, rfl, rfl⟩ := ret_ok (show M.ret (.int k (wrapK k (subK a b))) g c H l = .ok v c' H' l' from h)
    obtain ⟨rfl, _⟩ := sameK_eq (show sameK k j = true from hk)
    refine ⟨rfl, rfl, rfl, rfl, ?_⟩
    rw [wrapK_eq, subK_eq]
    unfold binOp; simp [Op.intArith, pure]
  case mul =>
    obtain ⟨rfl, rfl, rfl, rfl⟩ := ret_ok (show M.ret (.int k (wrapK k (mulK a b))) g c H l = .ok v c' H' l' from h)
    obtain ⟨rfl, _⟩ := sameK_eq (show sameK k j = true from hk)
    refine ⟨rfl, rfl, rfl, rfl, ?_⟩
    rw [wrapK_eq, mulK_eq]
    unfold binOp; simp [Op.intArith, pure]
  case quo =>
    obtain ⟨m, n, rfl, rfl, h⟩ := div_ok (f := Nat.div) (k := fun n => M.ret (.int k (wrapK k n))) h
    obtain ⟨rfl, rfl, rfl, rfl⟩ := ret_ok (g := g) h
    obtain ⟨rfl, _⟩ := sameK_eq (show sameK k j = true from hk)
    refine ⟨rfl, rfl, rfl, rfl, ?_⟩
    rw [wrapK_eq]
    have e1 : ¬ (Int.ofNat (n + 1) = 0) := by
      show ¬ ((n + 1 : Nat) : Int) = 0
      omega
    unfold binOp
    simp only [ne_eq, not_true, if_false, Op.intDiv, if_neg e1]
    rfl
  case rem =>
    obtain ⟨m, n, rfl, rfl, h⟩ := div_ok (f := Nat.mod) (k := fun n => M.ret (.int k n)) h
    obtain ⟨rfl, rfl, rfl, rfl⟩ := ret_ok (g := g) h
    obtain ⟨rfl, _⟩ := sameK_eq (show sameK k j = true from hk)
    refine ⟨rfl, rfl, rfl, rfl, ?_⟩
    have e1 : ¬ (Int.ofNat (n + 1) = 0) := by
      show ¬ ((n + 1 : Nat) : Int) = 0
      omega
    unfold binOp
    simp only [ne_eq, not_true, if_false, Op.intDiv, if_neg e1]
    rfl
  case and =>
    obtain ⟨m, n, rfl, rfl, hm, hn, h⟩ := bit_ok (f := Nat.land) (k := fun n => M.ret (.int k n)) h
    obtain ⟨rfl, rfl, rfl, rfl⟩ := ret_ok (g := g) h
    obtain ⟨rfl, hkk⟩ := sameK_eq (show sameK k j = true from hk)
    refine ⟨rfl, rfl, rfl, rfl, ?_⟩
    have e1 : (BitVec.ofInt k.bits (Int.ofNat m) &&& BitVec.ofInt k.bits (Int.ofNat n)).toNat = m &&& n := by
      rw [BitVec.toNat_and, ofInt_small (bits64 hkk) hm, ofInt_small (bits64 hkk) hn]
    have e2 : k.wrap (Int.ofNat (m &&& n)) = Int.ofNat (m &&& n) := wrap_small hkk (Nat.lt_of_le_of_lt Nat.and_le_left hm)
    unfold binOp
    simp only [ne_eq, not_true, if_false, Op.intBits]
    rw [e1]
    show Result.ok (Value.int k (k.wrap (Int.ofNat (m &&& n)))) w = _
    rw [e2]; rfl
  case or =>
    obtain ⟨m, n, rfl, rfl, hm, hn, h⟩ := bit_ok (f := Nat.lor) (k := fun n => M.ret (.int k n)) h
    obtain ⟨rfl, rfl, rfl, rfl⟩ := ret_ok (g := g) h
    obtain ⟨rfl, hkk⟩ := sameK_eq (show sameK k j = true from hk)
    refine ⟨rfl, rfl, rfl, rfl, ?_⟩
    have e1 : (BitVec.ofInt k.bits (Int.ofNat m) ||| BitVec.ofInt k.bits (Int.ofNat n)).toNat = m ||| n := by
      rw [BitVec.toNat_or, ofInt_small (bits64 hkk) hm, ofInt_small (bits64 hkk) hn]
    have e2 : k.wrap (Int.ofNat (m ||| n)) = Int.ofNat (m ||| n) := wrap_small hkk (by
      have := Nat.or_lt_two_pow (n := 63) (x := m) (y := n) (by omega) (by omega)
      omega)
    unfold binOp
    simp only [ne_eq, not_true, if_false, Op.intBits]
    rw [e1]
    show Result.ok (Value.int k (k.wrap (Int.ofNat (m ||| n)))) w = _
    rw [e2]; rfl
  case shl =>
    obtain ⟨m, n, rfl, rfl, hn, h⟩ := shl_ok (k := fun n => M.ret (.int k n)) h
    obtain ⟨rfl, rfl, rfl, rfl⟩ := ret_ok (g := g) h
    have hkk := wideK_eq (show wideK k = true from hk)
    refine ⟨rfl, rfl, rfl, rfl, ?_⟩
    have e1 : ¬ (Int.ofNat n < 0) := by simp
    have e2 : min (Int.ofNat n).toNat k.bits = n := by rw [bits64 hkk]; show min n 64 = n; omega
    unfold binOp
    simp only [Op.shift, if_neg e1, e2]
    rw [wrapK_eq]
    show Result.ok (Value.int k (k.wrap (Int.ofNat m * 2 ^ n))) w = _
    have e3 : (Int.ofNat m * 2 ^ n : Int) = Int.ofNat (m * 2 ^ n) := by
      show (m : Int) * 2 ^ n = ((m * 2 ^ n : Nat) : Int)
      push_cast; rfl
    rw [e3]
  case shr =>
    obtain ⟨m, n, rfl, rfl, hn, h⟩ := shr_ok (k := fun n => M.ret (.int k n)) h
    obtain ⟨rfl, rfl, rfl, rfl⟩ := ret_ok (g := g) h
    have hkk := wideK_eq (show wideK k = true from hk)
    refine ⟨rfl, rfl, rfl, rfl, ?_⟩
    have e1 : ¬ (Int.ofNat n < 0) := by simp
    have e2 : min (Int.ofNat n).toNat k.bits = n := by rw [bits64 hkk]; show min n 64 = n; omega
    unfold binOp
    simp only [Op.shift, if_neg e1, e2]
    show Result.ok (Value.int k ((Int.ofNat m).fdiv (2 ^ n))) w = _
    have e3 : (Int.ofNat m).fdiv (2 ^ n) = Int.ofNat (m / 2 ^ n) := by
      have e4 : (2 ^ n : Int) = ((2 ^ n : Nat) : Int) := by push_cast; rfl
      rw [e4]
      exact (Int.ofNat_fdiv m (2 ^ n)).symm
    rw [e3]
  case eql =>
    obtain ⟨rfl, rfl, rfl, rfl⟩ := ret_ok (show M.ret (.bool (eqK a b)) g c H l = .ok v c' H' l' from h)
    obtain ⟨rfl, _⟩ := sameK_eq (show sameK k j = true from hk)
    refine ⟨rfl, rfl, rfl, rfl, ?_⟩
    rw [eqK_eq]
    unfold binOp; simp [Op.intCmp, pure]
  case neq =>
    obtain ⟨rfl, rfl, rfl, rfl⟩ := ret_ok (show M.ret (.bool (notK (eqK a b))) g c H l = .ok v c' H' l' from h)
    obtain ⟨rfl, _⟩ := sameK_eq (show sameK k j = true from hk)
    refine ⟨rfl, rfl, rfl, rfl, ?_⟩
    rw [notK_eq, eqK_eq]
    unfold binOp; simp [Op.intCmp, pure, bne]
  case lss =>
    obtain ⟨rfl, rfl, rfl, rfl⟩ := ret_ok (show M.ret (.bool (notK (leK b a))) g c H l = .ok v c' H' l' from h)
    obtain ⟨rfl, _⟩ := sameK_eq (show sameK k j = true from hk)
    refine ⟨rfl, rfl, rfl, rfl, ?_⟩
    have e1 : ∀ x y : Int, (!decide (x ≤ y)) = decide (y < x) := fun x y => by
      by_cases hh : x ≤ y
      · rw [decide_eq_true hh, decide_eq_false (by omega)]; rfl
      · rw [decide_eq_false hh, decide_eq_true (by omega)]; rfl
    rw [notK_eq, leK_eq, e1]
    unfold binOp; simp [Op.intCmp, pure]
  case leq =>
    obtain ⟨rfl, rfl, rfl, rfl⟩ := ret_ok (show M.ret (.bool (leK a b)) g c H l = .ok v c' H' l' from h)
    obtain ⟨rfl, _⟩ := sameK_eq (show sameK k j = true from hk)
    refine ⟨rfl, rfl, rfl, rfl, ?_⟩
    rw [leK_eq]
    unfold binOp; simp [Op.intCmp, pure]
  case gtr =>
    obtain ⟨rfl, rfl, rfl, rfl⟩ := ret_ok (show M.ret (.bool (notK (leK a b))) g c H l = .ok v c' H' l' from h)
    obtain ⟨rfl, _⟩ := sameK_eq (show sameK k j = true from hk)
    refine ⟨rfl, rfl, rfl, rfl, ?_⟩
    have e1 : ∀ x y : Int, (!decide (x ≤ y)) = decide (y < x) := fun x y => by
      by_cases hh : x ≤ y
      · rw [decide_eq_true hh, decide_eq_false (by omega)]; rfl
      · rw [decide_eq_false hh, decide_eq_true (by omega)]; rfl
    rw [notK_eq, leK_eq, e1]
    unfold binOp; simp [Op.intCmp, pure]
  case geq =>
    obtain ⟨rfl, rfl, rfl, rfl⟩ := ret_ok (show M.ret (.bool (leK b a)) g c H l = .ok v c' H' l' from h)
    obtain ⟨rfl, _⟩ := sameK_eq (show sameK k j = true from hk)
    refine ⟨rfl, rfl, rfl, rfl, ?_⟩
    rw [leK_eq]
    unfold binOp; simp [Op.intCmp, pure]
  all_goals cases h
theorem s_bin {o : Oper} {op : BinOp} {t u : TypeId} {x y : Operand} (ho : o.op = .binOp op t x y u) : SoundO P (oBin op x y) o := by
  intro e cl a base w0 ρ U H w g c l v c' H' l' hx hR _ h
  rw [ho] at hx
  obtain ⟨hx1, -⟩ := hx x (by simp [Op.operands])
  obtain ⟨hy1, -⟩ := hx y (by simp [Op.operands])
  obtain ⟨k, p, h1, h⟩ := int_ok h
  obtain ⟨j, q, h2, h⟩ := int_ok h
  obtain ⟨hk, h⟩ := iff_ok h
  obtain ⟨rfl, rfl, rfl, hf, hb⟩ := bin_sound (P := P) (w := w) (t := t) hk h
  rw [h1] at hx1
  rw [h2] at hy1
  obtain ⟨hr1, hr2, -⟩ := flat_ren (ρ := ρ) (U := U) hf
  refine goes_same hR hr2 ?_
  rw [hr1]
  unfold execOp
  rw [ho]
  simp only [hx1, hy1, ren_int]
  refine run_value ?_
  have hg : (eqGuard op t x y (.int k p) (.int j q)).run P w = .ok () w := by cases op <;> rfl
  show (eqGuard op t x y (.int k p) (.int j q) >>= fun _ => binOp op t (.int k p) (.int j q)).run P w = _
  rw [run_bind hg]
  exact hb
theorem s_least {o : Oper} {cc : Call} {x y : Operand} (ho : o.op = .call cc) (hc : cc.callee = .builtin .min) (ha : cc.args.toList = [x, y]) : SoundO P (oLeast x y) o := by
  intro e cl a base w0 ρ U H w g c l v c' H' l' hx hR _ h
  have ea : cc.args = #[x, y] := by apply Array.toList_inj.mp; rw [ha]
  rw [ho] at hx
  obtain ⟨hx1, -⟩ := hx x (by simp [Op.operands, Call.operands, hc, ea])
  obtain ⟨hy1, -⟩ := hx y (by simp [Op.operands, Call.operands, hc, ea])
  obtain ⟨k, p, h1, h⟩ := int_ok h
  obtain ⟨j, q, h2, h⟩ := int_ok h
  obtain ⟨rfl, rfl, rfl, rfl⟩ := ret_ok (g := g) h
  rw [h1] at hx1
  rw [h2] at hy1
  refine goes_same hR trivial ?_
  refine run_builtin ho hc fun kk => ?_
  rw [ea, show (#[x, y] : Array Operand).map a.eval = #[a.eval x, a.eval y] by simp, hx1, hy1]
  unfold builtin
  simp only
  refine run_value ?_
  show Result.ok (Value.int k (if q < p then q else p)) w = _
  congr 2
  rw [notK_eq, leK_eq]
  show _ = (Bool.rec p q (!decide (p ≤ q)) : Int)
  by_cases hh : p ≤ q
  · rw [if_neg (by omega), decide_eq_true hh]; rfl
  · rw [if_pos (by omega), decide_eq_false hh]; rfl
theorem s_most {o : Oper} {cc : Call} {x y : Operand} (ho : o.op = .call cc) (hc : cc.callee = .builtin .max) (ha : cc.args.toList = [x, y]) : SoundO P (oMost x y) o := by
  intro e cl a base w0 ρ U H w g c l v c' H' l' hx hR _ h
  have ea : cc.args = #[x, y] := by apply Array.toList_inj.mp; rw [ha]
  rw [ho] at hx
  obtain ⟨hx1, -⟩ := hx x (by simp [Op.operands, Call.operands, hc, ea])
  obtain ⟨hy1, -⟩ := hx y (by simp [Op.operands, Call.operands, hc, ea])
  obtain ⟨k, p, h1, h⟩ := int_ok h
  obtain ⟨j, q, h2, h⟩ := int_ok h
  obtain ⟨rfl, rfl, rfl, rfl⟩ := ret_ok (g := g) h
  rw [h1] at hx1
  rw [h2] at hy1
  refine goes_same hR trivial ?_
  refine run_builtin ho hc fun kk => ?_
  rw [ea, show (#[x, y] : Array Operand).map a.eval = #[a.eval x, a.eval y] by simp, hx1, hy1]
  unfold builtin
  simp only
  refine run_value ?_
  show Result.ok (Value.int k (if q > p then q else p)) w = _
  congr 2
  rw [notK_eq, leK_eq]
  show _ = (Bool.rec p q (!decide (q ≤ p)) : Int)
  by_cases hh : q ≤ p
  · rw [if_neg (by omega), decide_eq_true hh]; rfl
  · rw [if_pos (by omega), decide_eq_false hh]; rfl
end
end Go.Proofs.YtedipingocmmdaaGreat.Ev

