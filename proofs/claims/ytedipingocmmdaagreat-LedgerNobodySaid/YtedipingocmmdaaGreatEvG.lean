/- An evaluator of calls: every operation is framed. -/
import Derived.Test.YtedipingocmmdaaGreatEvF
namespace Go.Proofs.YtedipingocmmdaaGreat.Ev
open Go
section
variable {α : Type}
theorem fr_onBool {v : Value} {k : Bool → M α} (hk : ∀ b, Framed (k b)) : Framed (onBool v .fail k) := by cases v <;> first | exact .fail | exact hk _
theorem fr_onInt {v : Value} {k : IntKind → Int → M α} (hk : ∀ a b, Framed (k a b)) : Framed (onInt v .fail k) := by cases v <;> first | exact .fail | exact hk _ _
theorem fr_onPtrO {v : Value} {n : M α} {k : Option Addr → M α} (hn : Framed n) (hk : ∀ a, Framed (k a)) : Framed (onPtrO v n k) := by cases v <;> first | exact hn | exact hk _
theorem fr_onSlice {v : Value} {k : Option Addr → Nat → Nat → M α} (hk : ∀ a b c, Framed (k a b c)) : Framed (onSlice v .fail k) := by cases v <;> first | exact .fail | exact hk _ _ _
theorem fr_onFunc {v : Value} {k : Fn → Array Value → Array Value → M α} (hk : ∀ a b c, Framed (k a b c)) : Framed (onFunc v .fail k) := by cases v <;> first | exact .fail | exact hk _ _ _
theorem fr_onAgg {v : Value} {k : Array Value → M α} (hk : ∀ a, Framed (k a)) : Framed (onAgg v .fail k) := by cases v <;> first | exact .fail | exact hk _
theorem fr_onTuple {v : Value} {k : Array Value → M α} (hk : ∀ a, Framed (k a)) : Framed (onTuple v .fail k) := by cases v <;> first | exact .fail | exact hk _
theorem fr_onAddr {a : Option Addr} {k : Nat → Nat → M α} (hk : ∀ b o, Framed (k b o)) : Framed (onAddr a .fail k) := by
  cases a with
  | none => exact .fail
  | some a => obtain ⟨b, o, s⟩ := a; cases s with
    | none => exact hk b o
    | some _ => exact .fail
theorem fr_onPtr {v : Value} {k : Nat → Nat → M α} (hk : ∀ b o, Framed (k b o)) : Framed (onPtr v .fail k) := fr_onPtrO .fail fun _ => fr_onAddr hk
theorem fr_onFn {f : Fn} {k : FuncId → M α} (hk : ∀ g, Framed (k g)) : Framed (onFn f .fail k) := by cases f <;> first | exact .fail | exact hk _
theorem fr_onNat {v : Value} {k : Nat → M α} (hk : ∀ n, Framed (k n)) : Framed (onNat v .fail k) := fr_onInt fun _ n => by cases n <;> first | exact .fail | exact hk _
theorem fr_ite {p : Prop} [Decidable p] {m : M α} (hm : p → Framed m) : Framed (if p then m else .fail) := by split <;> first | exact .fail | exact hm (by assumption)
theorem fr_cut {β : Type} {o n : Nat} {l : List β} {k : List β → M α} (hk : ∀ x, Framed (k x)) : Framed (cut o n l .fail k) := by rw [cut_eq]; exact fr_ite fun _ => hk _
theorem fr_iff {b : Bool} {m : M α} (hm : Framed m) : Framed (M.iff b m) := by cases b <;> first | exact .fail | exact hm
theorem fr_opt {β : Type} {x : Option β} {k : β → M α} (hk : ∀ x, Framed (k x)) : Framed (M.opt x k) := by cases x <;> first | exact .fail | exact hk _
theorem fr_nth {β : Type} {n : Nat} {l : List β} {k : β → M α} (hk : ∀ x, Framed (k x)) : Framed (nth .fail k n l) := by rw [nth_eq]; split <;> first | exact .fail | exact hk _
theorem fr_valOf {g : Bool} {cs : List Value} {k : Value → M α} (hk : ∀ x, Framed (k x)) : Framed (valOf g cs .fail k) := by
  cases g
  · cases cs with
    | nil => exact .fail
    | cons v r => cases r <;> first | exact .fail | exact hk _
  · exact hk _
theorem fr_fill {k : List Value → M α} (hk : ∀ x, Framed (k x)) : ∀ (ps : List (Nat × Nat × List Value)) (cs : List Value), Framed (fillK .fail ps cs k)
  | [], cs => hk cs
  | (off, size, vs) :: r, cs => by
    show Framed (Bool.rec .fail (overAt off vs .fail cs fun cs => fillK .fail r cs k) (lenIs size vs))
    cases lenIs size vs
    · exact .fail
    · show Framed (overAt off vs .fail cs fun cs => fillK .fail r cs k)
      rw [overAt_eq]; exact fr_ite fun _ => fr_fill hk r _
theorem fr_ins {β : Type} {T : Trie β} {a : Option β} {f n : Nat} {k : Trie β → M α} (hk : ∀ x, Framed (k x)) : Framed (T.ins .fail a f n k) := by
  obtain ⟨o, ho, -⟩ := Trie.ins_spec a f T n
  rw [ho]
  cases o <;> first | exact .fail | exact hk _
theorem fr_store {b o : Nat} {vs : List Value} {k : M α} (hk : Framed k) : Framed (storeM b o vs k) := by
  refine .write (.mk fun x => ?_)
  rw [overAt_eq]
  split
  · exact .inr (.inl ⟨_, _, rfl, hk⟩)
  · exact .inl rfl
theorem fr_load {b o n : Nat} {g : Bool} : Framed (loadM b o n g) := .read fun _ => fr_cut fun _ => fr_valOf .ret
theorem fr_readS {size n : Nat} {a : Option Addr} {k : List Value → M Value} (hk : ∀ x, Framed (k x)) : Framed (readS size a n k) := by
  cases n with
  | zero => exact hk _
  | succ n =>
    show Framed (onAddr a .fail fun b o => .read b fun x => cut o (Nat.mul (Nat.succ n) size) x.cells .fail k)
    exact fr_onAddr fun _ _ => .read fun _ => fr_cut hk
theorem fr_bit {f : Nat → Nat → Nat} {a b : Int} {k : Int → M α} (hk : ∀ x, Framed (k x)) : Framed (bitK f a b .fail k) := by
  cases a with
  | ofNat m => cases b with
    | ofNat n => show Framed (Bool.rec .fail _ (andK _ _)); cases andK (Nat.blt m 9223372036854775808) (Nat.blt n 9223372036854775808) <;> first | exact .fail | exact hk _
    | negSucc _ => exact .fail
  | negSucc _ => exact .fail
theorem fr_div {f : Nat → Nat → Nat} {a b : Int} {k : Int → M α} (hk : ∀ x, Framed (k x)) : Framed (divK f a b .fail k) := by
  cases a with
  | ofNat m => cases b with
    | ofNat n => cases n <;> first | exact .fail | exact hk _
    | negSucc _ => exact .fail
  | negSucc _ => exact .fail
theorem fr_shl {kd : IntKind} {a b : Int} {k : Int → M α} (hk : ∀ x, Framed (k x)) : Framed (shlK kd a b .fail k) := by
  cases a with
  | ofNat m => cases b with
    | ofNat n => show Framed (Bool.rec .fail _ (Nat.blt n 64)); cases Nat.blt n 64 <;> first | exact .fail | exact hk _
    | negSucc _ => exact .fail
  | negSucc _ => exact .fail
theorem fr_shr {a b : Int} {k : Int → M α} (hk : ∀ x, Framed (k x)) : Framed (shrK a b .fail k) := by
  cases a with
  | ofNat m => cases b with
    | ofNat n => show Framed (Bool.rec .fail _ (Nat.blt n 64)); cases Nat.blt n 64 <;> first | exact .fail | exact hk _
    | negSucc _ => exact .fail
  | negSucc _ => exact .fail
theorem fr_binK {op : BinOp} {kd : IntKind} {a b : Int} {k : Value → M α} (hk : ∀ x, Framed (k x)) : Framed (binK op kd a b .fail k) := by
  cases op
  case quo => exact fr_div (f := Nat.div) (k := fun n => k (.int kd (wrapK kd n))) fun _ => hk _
  case rem => exact fr_div (f := Nat.mod) (k := fun n => k (.int kd n)) fun _ => hk _
  case and => exact fr_bit (f := Nat.land) (k := fun n => k (.int kd n)) fun _ => hk _
  case or => exact fr_bit (f := Nat.lor) (k := fun n => k (.int kd n)) fun _ => hk _
  case shl => exact fr_shl (k := fun n => k (.int kd n)) fun _ => hk _
  case shr => exact fr_shr (k := fun n => k (.int kd n)) fun _ => hk _
  all_goals first | exact .fail | exact hk _
theorem fr_natOr {d : Nat} {x : Option Value} {k : Nat → M Value} (hk : ∀ x, Framed (k x)) : Framed (natOr d x k) := by cases x <;> first | exact hk _ | exact fr_onNat hk
theorem fr_sliceK {size cap l h m : Nat} {a : Option Addr} : Framed (sliceK size a cap l h m) := by
  refine fr_iff ?_
  cases a with
  | none => exact .ret _
  | some a => obtain ⟨b, o, s⟩ := a; cases s with
    | none => exact .ret _
    | some _ => exact fr_iff (.ret _)
theorem fr_sliceR {elem : TypeId} {size len cap l h : Nat} {a : Option Addr} {mx : Option Value} : Framed (sliceR elem size a len cap l h mx) := by
  cases a with
  | none => exact .fail
  | some a =>
    obtain ⟨b, o, s⟩ := a
    refine .read fun k => fr_iff ?_
    cases mx with
    | some m => exact fr_onNat fun _ => fr_iff fr_sliceK
    | none =>
      refine fr_iff ?_
      cases s with
      | some _ => exact fr_iff (.ret _)
      | none =>
        show Framed (Bool.rec (Bool.rec _ _ (Nat.blt l len)) _ (Nat.beq l 0))
        cases Nat.beq l 0
        · show Framed (Bool.rec _ _ (Nat.blt l len))
          cases Nat.blt l len <;> exact .ret _
        · exact .ret _
end
section
variable (e : Operand → Value) {cl : CL} (hcl : ∀ f l, Framed (cl f l))
/-- An operation is framed, if the calls are. -/
def FrO (op : Opn) : Prop := ∀ (e : Operand → Value) (cl : CL), (∀ f l, Framed (cl f l)) → Framed (op e cl)
theorem fr_oMv {x : Operand} : FrO (oMv x) := fun _ _ _ => .ret _
theorem fr_oPick {a b c : Operand} : FrO (oPick a b c) := fun _ _ _ => fr_onBool fun _ => .ret _
theorem fr_newRow {t : TypeId} {cs : List Value} : Framed (newRow t cs) := .new fun _ => .ret _
theorem fr_oAlloc {t : TypeId} {z : List Value} : FrO (oAlloc t z) := fun _ _ _ => fr_newRow
theorem fr_oBox {t : TypeId} {x : Operand} : FrO (oBox t x) := fun _ _ _ => fr_iff fr_newRow
theorem fr_oBuild {z : List Value} {ps : List (Nat × Nat × Operand)} : FrO (oBuild z ps) := fun _ _ _ => fr_fill (fun _ => .ret _) _ _
theorem fr_oBslice {t : TypeId} {n : Nat} {z : List Value} {ps : List (Nat × Nat × Operand)} : FrO (oBslice t n z ps) := fun _ _ _ => fr_fill (fun _ => .new fun _ => .ret _) _ _
theorem fr_oLoad {n : Nat} {g : Bool} {a : Operand} : FrO (oLoad n g a) := fun _ _ _ => fr_onPtr fun _ _ => fr_load
theorem fr_oStore {n : Nat} {a x : Operand} : FrO (oStore n a x) := fun _ _ _ => fr_onPtr fun _ _ => fr_iff (fr_store (.ret _))
theorem fr_oChk {x : Operand} : FrO (oChk x) := fun _ _ _ => fr_onPtrO (fr_onFunc fun _ _ _ => fr_onFn fun _ => .ret _) fun a => by cases a <;> first | exact .fail | exact .ret _
theorem fr_oBin {op : BinOp} {x y : Operand} : FrO (oBin op x y) := fun _ _ _ => fr_onInt fun _ _ => fr_onInt fun _ _ => fr_iff (fr_binK .ret)
theorem fr_two {α : Type} {l : List Value} {k : Value → Value → M α} (hk : ∀ a b, Framed (k a b)) : Framed (two l .fail k) := by
  rcases l with _ | ⟨u, _ | ⟨v, _ | ⟨z, r⟩⟩⟩ <;> first | exact .fail | exact hk _ _
theorem fr_oEq2 {n : Bool} {x y : Operand} : FrO (oEq2 n x y) := fun _ _ _ => fr_onAgg fun _ => fr_onAgg fun _ => fr_two fun _ _ => fr_two fun _ _ => fr_onInt fun _ _ => fr_onInt fun _ _ => fr_onInt fun _ _ => fr_onInt fun _ _ => fr_iff (.ret _)
theorem fr_oBeq {n : Bool} {x y : Operand} : FrO (oBeq n x y) := fun _ _ _ => fr_onBool fun _ => fr_onBool fun _ => .ret _
theorem fr_oNilP {n : Bool} {x : Operand} : FrO (oNilP n x) := fun _ _ _ => fr_onPtrO .fail fun _ => .ret _
theorem fr_oNilS {n : Bool} {x : Operand} : FrO (oNilS n x) := fun _ _ _ => fr_onSlice fun _ _ _ => .ret _
theorem fr_oNot {x : Operand} : FrO (oNot x) := fun _ _ _ => fr_onBool fun _ => .ret _
theorem fr_oConv {k : IntKind} {x : Operand} : FrO (oConv k x) := fun _ _ _ => fr_onInt fun _ _ => .ret _
theorem fr_oMkFn {f : FuncId} {a b : List Operand} : FrO (oMkFn f a b) := fun _ _ _ => .ret _
theorem fr_oMkSlice {t : TypeId} {s b : Nat} {z : List Value} {l c : Operand} : FrO (oMkSlice t s b z l c) := fun _ _ _ => fr_onNat fun _ => fr_onNat fun _ => fr_iff (.new fun _ => .ret _)
theorem fr_oSlice {t : TypeId} {s : Nat} {x : Operand} {lo hi mx : Option Operand} : FrO (oSlice t s x lo hi mx) := fun _ _ _ => fr_onSlice fun a len cap => fr_natOr fun l => fr_natOr fun h => by
  cases isRoomy cap
  · exact fr_natOr fun _ => fr_sliceK
  · exact fr_sliceR
theorem fr_oFld {o : Nat} {x : Operand} : FrO (oFld o x) := fun _ _ _ => fr_onPtr fun _ _ => .ret _
theorem fr_oPart {o s : Nat} {g : Bool} {x : Operand} : FrO (oPart o s g x) := fun _ _ _ => fr_onAgg fun _ => fr_cut fun _ => fr_valOf .ret
theorem fr_oIdx {s : Nat} {x i : Operand} : FrO (oIdx s x i) := fun _ _ _ => fr_onSlice fun _ _ _ => fr_onAddr fun _ _ => fr_onNat fun _ => fr_iff (.ret _)
theorem fr_oExt {i : Nat} {x : Operand} : FrO (oExt i x) := fun _ _ _ => fr_onTuple fun _ => fr_nth .ret
theorem fr_oLen {x : Operand} : FrO (oLen x) := fun _ _ _ => fr_onSlice fun _ _ _ => .ret _
theorem fr_oCap {x : Operand} : FrO (oCap x) := fun _ _ _ => fr_onSlice fun _ _ c => by cases isRoomy c <;> first | exact .fail | exact .ret _
theorem fr_oLeast {x y : Operand} : FrO (oLeast x y) := fun _ _ _ => fr_onInt fun _ _ => fr_onInt fun _ _ => .ret _
theorem fr_oMost {x y : Operand} : FrO (oMost x y) := fun _ _ _ => fr_onInt fun _ _ => fr_onInt fun _ _ => .ret _
theorem fr_appRoomy {t : TypeId} {s sl m : Nat} {l : List Value} {a : Option Addr} : Framed (appRoomy t s sl m l a) := fr_onAddr fun b o => fr_iff (by
  refine .write (.mk fun x => .inr (.inr ⟨_, rfl, fr_iff (.new fun _ => .ret _)⟩)))
theorem fr_appIn {s sl sc m : Nat} {l : List Value} {a : Option Addr} : Framed (appIn s sl sc m l a) := fr_onAddr fun b o => by
  refine .write (.mk fun x => ?_)
  obtain ⟨t, cs, q⟩ := x
  cases q
  · show (overAt _ _ _ _ _ = _) ∨ _
    rw [overAt_eq]
    split
    · exact .inr (.inl ⟨_, _, rfl, .ret _⟩)
    · exact .inl rfl
  · exact .inl rfl
theorem fr_appNew {t : TypeId} {s sl m : Nat} {l : List Value} {a : Option Addr} : Framed (appNew t s sl m l a) := fr_readS fun _ => .new fun _ => .ret _
theorem fr_oAppend {t : TypeId} {s b : Nat} {x y : Operand} : FrO (oAppend t s b x y) := fun _ _ _ => fr_onSlice fun a sl sc => fr_onSlice fun ya n _ => fr_readS fun new => by
  cases n with
  | zero => exact fr_iff (.ret _)
  | succ n =>
    refine fr_iff ?_
    cases isRoomy sc
    · show Framed (Bool.rec _ _ (Nat.ble _ sc))
      cases Nat.ble (Nat.add sl (n + 1)) sc
      · exact fr_iff fr_appNew
      · exact fr_appIn
    · exact fr_iff fr_appRoomy
theorem fr_oCopy {s : Nat} {x y : Operand} : FrO (oCopy s x y) := fun _ _ _ => fr_onSlice fun a dl _ => fr_onSlice fun ya n _ => by
  generalize (Bool.rec dl n (Nat.ble n dl) : Nat) = m
  cases m with
  | zero => exact .ret _
  | succ m => exact fr_readS fun new => fr_onAddr fun b o => fr_store (.ret _)
theorem fr_oCall {f : Operand} {l : List Operand} : FrO (oCall f l) := fun _ _ hcl => fr_onFunc fun _ _ _ => fr_onFn fun _ => hcl _ _
theorem fr_oBad : FrO oBad := fun _ _ _ => .fail
end

/-! ### Frames, codes, calls -/
theorem fr_forced {α : Type} {v : Value} {k : Value → M α} (hk : ∀ v, Framed (k v)) : Framed (forced v k) := by
  cases v <;> first | exact hk _ | (rename_i b; cases b <;> exact hk _) | (rename_i n; cases n <;> (rename_i m; cases m <;> exact hk _))
theorem fr_putT {T : Trie Value} {d : Option Nat} {v : Value} : Framed (putT T d v) := by
  cases d with
  | none => exact .ret _
  | some d => exact fr_forced fun _ => fr_ins .ret
/-- A list of operations is framed. -/
def FrL (ops : List SOper) : Prop := ∀ o ∈ ops, FrO o.op
section
variable {cl : CL}
theorem fr_evVal (hcl : ∀ f l, Framed (cl f l)) {T : Trie Value} {o : SOper} (ho : FrO o.op) : Framed (evVal cl T o) := by
  unfold evVal
  cases wantedT T o.guard
  · exact .ret _
  · exact ho _ _ hcl
theorem fr_evOper (hcl : ∀ f l, Framed (cl f l)) {T : Trie Value} {o : SOper} (ho : FrO o.op) : Framed (evOper cl T o) := .bind (fr_evVal hcl ho) fun _ => fr_putT
theorem fr_evSeq (hcl : ∀ f l, Framed (cl f l)) : ∀ {ops : List SOper} {T : Trie Value}, FrL ops → Framed (evSeq cl ops T)
  | [], _, _ => .ret _
  | o :: _, _, h => .bind (fr_evOper hcl (h o (List.mem_cons_self ..))) fun _ => fr_evSeq hcl fun x hx => h x (List.mem_cons_of_mem _ hx)
end
def logIn (g : Bool) (d l : Log) : Log := if g = true then d ++ l else l
theorem logged_ok {α : Type} {m : M α} {g : Bool} {c : Nat} {H : Mem} {l : Log} {y : α × Did} {c' : Nat} {H' : Mem} {l' : Log} (h : logged m g c H l = .ok y c' H' l') :
    ∃ x d, m true c H [] = .ok x c' H' d ∧ y = (x, ⟨c, c', d⟩) ∧ l' = logIn g d l := by
  unfold logged at h
  cases hm : m true c H [] with
  | no => rw [hm] at h; cases h
  | ok x c1 H1 d =>
    rw [hm] at h
    injection h with h1 h2 h3 h4
    subst h2 h3
    refine ⟨x, d, rfl, h1.symm, ?_⟩
    cases g
    · exact h4.symm
    · rw [← h4]; exact appK_eq _ _
theorem logged_of {α : Type} {m : M α} {g : Bool} {c : Nat} {H : Mem} {l : Log} {x : α} {c' : Nat} {H' : Mem} {d : Log} (h : m true c H [] = .ok x c' H' d) :
    logged m g c H l = .ok (x, ⟨c, c', d⟩) c' H' (logIn g d l) := by
  unfold logged
  rw [h]
  cases g
  · rfl
  · show Res.ok _ _ _ (appK d l) = _
    rw [appK_eq]
    rfl
theorem Framed.logged {α : Type} {m : M α} (hm : Framed m) : Framed (Ev.logged m) where
  run := by
    intro c H l y c' H' l' h
    obtain ⟨x, d, h1, rfl, hl'⟩ := logged_ok h
    replace hl' : l' = d ++ l := hl'
    subst hl'
    obtain ⟨d2, hd, hc, hn, hu, hk, ha⟩ := hm.run h1
    rw [List.append_nil] at hd
    subst hd
    refine ⟨d, rfl, hc, hn, hu, hk, fun H2 l2 hag hno => ?_⟩
    obtain ⟨K, hK, hk2⟩ := ha H2 [] hag hno
    rw [List.append_nil] at hK
    exact ⟨K, by rw [logged_of hK]; rfl, hk2⟩
  off := by
    intro c H l y c' H' l' h
    obtain ⟨x, d, h1, rfl, hl'⟩ := logged_ok h
    exact ⟨hl', fun l2 => ⟨d ++ l2, by rw [logged_of h1]; rfl⟩⟩
section
variable {cl : CL}
theorem fr_evLogs (hcl : ∀ f l, Framed (cl f l)) : ∀ {ops : List SOper} {T : Trie Value} {ds : List Did}, FrL ops → Framed (evLogs cl ops T ds)
  | [], _, _, _ => .ret _
  | o :: _, _, _, h => .bind (fr_evOper hcl (h o (List.mem_cons_self ..))).logged fun _ => fr_evLogs hcl fun x hx => h x (List.mem_cons_of_mem _ hx)
theorem fr_evDraw (hcl : ∀ f l, Framed (cl f l)) {ops : List SOper} {pairs : List (Nat × Nat)} {T : Trie Value} (h : FrL ops) : Framed (evDraw cl ops pairs T) :=
  .bind (fr_evLogs hcl h) fun _ => fr_iff (.ret _)
end
/-- A code is framed, if the calls are. -/
def FrC (x : EC) : Prop := ∀ cl : CL, (∀ f l, Framed (cl f l)) → ∀ T, Framed (x cl T)
theorem fr_cSkip : FrC cSkip := fun _ _ _ => .ret _
theorem fr_cSeqR {ops : List SOper} (h : FrL ops) : FrC (cSeqR ops) := fun _ hcl _ => .bind (fr_evSeq hcl h) fun _ => .ret _
theorem fr_cDraw {ops : List SOper} {pairs : List (Nat × Nat)} (h : FrL ops) : FrC (cDraw ops pairs) := fun _ hcl _ => .bind (fr_evDraw hcl h) fun _ => .ret _
theorem fr_onExit {α : Type} {x : IExit} {a c : M α} {b : Nat → M α} (ha : Framed a) (hb : ∀ i, Framed (b i)) (hc : Framed c) : Framed (onExit x a b c) := by cases x <;> first | exact ha | exact hb _ | exact hc
theorem fr_cSeq {x y : EC} (hx : FrC x) (hy : FrC y) : FrC (cSeq x y) := fun cl hcl T => .bind (hx cl hcl T) fun _ => fr_onExit (hy cl hcl _) (fun _ => .ret _) (.ret _)
theorem fr_cCond {c : Operand} {x y : EC} (hx : FrC x) (hy : FrC y) : FrC (cCond c x y) := fun cl hcl T => fr_onBool fun b => by
  cases b
  · exact hy cl hcl T
  · exact hx cl hcl T
theorem fr_cBlock {id : Nat} {x : EC} (hx : FrC x) : FrC (cBlock id x) := fun cl hcl T => .bind (hx cl hcl T) fun _ => fr_onExit (.ret _) (fun _ => .ret _) (.ret _)
theorem fr_loopN {b : Trie Value → M (IExit × Trie Value)} (hb : ∀ T, Framed (b T)) : ∀ n T, Framed (loopN b n T)
  | 0, _ => .fail
  | n + 1, T => .bind (hb T) fun _ => fr_onExit (fr_loopN hb n _) (fun _ => .ret _) (.ret _)
theorem fr_cLoop {x : EC} (hx : FrC x) : FrC (cLoop x) := fun cl hcl _ => fr_loopN (hx cl hcl) _ _
theorem fr_cExit {id : Nat} : FrC (cExit id) := fun _ _ _ => .ret _
theorem fr_cRet : FrC cRet := fun _ _ _ => .ret _
theorem fr_evRes {T : Trie Value} : ∀ {rs : List RVar} {k : List Value → M Value}, (∀ l, Framed (k l)) → Framed (evRes T rs k)
  | [], _, hk => hk _
  | .tmp _ :: r, _, hk => fr_evRes (rs := r) fun _ => hk _
  | .cell _ _ _ :: r, _, hk => fr_onPtr fun _ _ => .bind fr_load fun _ => fr_evRes (rs := r) fun _ => hk _
theorem fr_argsT : ∀ {vs : List Value} {n : Nat} {T : Trie Value} {k : Trie Value → M Value}, (∀ T, Framed (k T)) → Framed (argsT vs n T k)
  | [], _, _, _, hk => hk _
  | v :: r, n, T, k, hk => by
    show Framed (T.ins .fail (some v) 20 n fun T => argsT r (Nat.succ n) T k)
    exact fr_ins fun _ => fr_argsT (vs := r) hk
theorem fr_enterF {F : Trie EFunc} (hF : ∀ f E, F.get f = some E → FrC E.body) {cl : CL} (hcl : ∀ f l, Framed (cl f l)) (f : Nat) (l : List Value) : Framed (enterF F cl f l) := by
  unfold enterF
  cases hf : F.get f with
  | none => exact .fail
  | some fn => exact fr_argsT fun T => .bind (hF f fn hf cl hcl T) fun _ => fr_onExit (fr_evRes fun _ => .ret _) (fun _ => .fail) (fr_evRes fun _ => .ret _)
/-- The evaluator without what is known ahead. -/
noncomputable def nobody : Nat → List Known := fun _ => []
theorem evF_nobody {F : Trie EFunc} {d f : Nat} {l : List Value} : evF F nobody (d + 1) f l = enterF F (evF F nobody d) f l := rfl
theorem fr_evF0 {F : Trie EFunc} (hF : ∀ f E, F.get f = some E → FrC E.body) : ∀ d f l, Framed (evF F nobody d f l)
  | 0, _, _ => .fail
  | d + 1, f, l => fr_enterF hF (fr_evF0 hF d) f l
end Go.Proofs.YtedipingocmmdaaGreat.Ev

