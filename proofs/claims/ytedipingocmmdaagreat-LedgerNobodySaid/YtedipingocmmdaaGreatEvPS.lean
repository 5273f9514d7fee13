/- The evaluator with continuations tells what the evaluator tells. -/
import Derived.Test.YtedipingocmmdaaGreatEvP
namespace Go.Proofs.YtedipingocmmdaaGreat.Ev.C
open Go

theorem forceN_eq {R : Type} (n : Nat) (k : Nat → R) : forceN n k = k n := by cases n <;> rfl
theorem forceA_eq {R : Type} (a : Option Addr) (k : Option Addr → R) : forceA a k = k a := by
  cases a with
  | none => rfl
  | some a =>
    obtain ⟨b, o, s⟩ := a
    show forceN b (fun b => forceN o fun o => k (some ⟨b, o, s⟩)) = _
    rw [forceN_eq, forceN_eq]
theorem getC_eq {α R : Type} (t : Trie α) (no : R) (k : α → R) : ∀ n, getC t n no k = Option.rec no k (t.get n) := by
  induction t with
  | leaf => intro n; rfl
  | node l v r hl hr =>
    intro n
    show (Bool.rec (Bool.rec (getC r (n / 2 - 1) no k) (getC l (n / 2) no k) (Nat.beq (n % 2) 1)) (Option.rec no k v) (Nat.beq n 0) : R) = Option.rec no k (Bool.rec (Bool.rec (r.get (n / 2 - 1)) (l.get (n / 2)) (Nat.beq (n % 2) 1)) v (Nat.beq n 0) : Option α)
    cases Nat.beq n 0 with
    | true => rfl
    | false => cases Nat.beq (n % 2) 1 with
      | true => exact hl _
      | false => exact hr _
theorem ins_map {α R S : Type} (f : R → S) (no : R) (a : Option α) : ∀ (fu : Nat) (t : Trie α) (n : Nat) (k : Trie α → R), f (t.ins no a fu n k) = t.ins (f no) a fu n fun x => f (k x)
  | 0, _, _, _ => rfl
  | fu + 1, t, n, k => by
    show f (Bool.rec (Bool.rec (Trie.rec (Trie.ins no a fu .leaf (n / 2 - 1) fun x => k (.node .leaf none x)) (fun l v r _ _ => Trie.ins no a fu r (n / 2 - 1) fun x => k (.node l v x)) t) (Trie.rec (Trie.ins no a fu .leaf (n / 2) fun x => k (.node x none .leaf)) (fun l v r _ _ => Trie.ins no a fu l (n / 2) fun x => k (.node x v r)) t) (Nat.beq (n % 2) 1)) (Trie.rec (k (.node .leaf a .leaf)) (fun l _ r _ _ => k (.node l a r)) t) (Nat.beq n 0) : R)
      = (Bool.rec (Bool.rec (Trie.rec (Trie.ins (f no) a fu .leaf (n / 2 - 1) fun x => f (k (.node .leaf none x))) (fun l v r _ _ => Trie.ins (f no) a fu r (n / 2 - 1) fun x => f (k (.node l v x))) t) (Trie.rec (Trie.ins (f no) a fu .leaf (n / 2) fun x => f (k (.node x none .leaf))) (fun l v r _ _ => Trie.ins (f no) a fu l (n / 2) fun x => f (k (.node x v r))) t) (Nat.beq (n % 2) 1)) (Trie.rec (f (k (.node .leaf a .leaf))) (fun l _ r _ _ => f (k (.node l a r))) t) (Nat.beq n 0) : S)
    cases Nat.beq n 0 with
    | true => cases t <;> rfl
    | false => cases Nat.beq (n % 2) 1 with
      | true => cases t with
        | leaf => exact ins_map f no a fu _ _ _
        | node => exact ins_map f no a fu _ _ _
      | false => cases t with
        | leaf => exact ins_map f no a fu _ _ _
        | node => exact ins_map f no a fu _ _ _

/-! ### The steps -/
section
variable {α β : Type}
theorem up_ret (x : α) : up (Ev.M.ret x) = M.ret x := rfl
theorem up_fail : up (Ev.M.fail : Ev.M α) = M.fail := rfl
theorem up_bind (m : Ev.M α) (f : α → Ev.M β) : up (.bind m f) = .bind (up m) fun x => up (f x) := by
  funext g c H l k
  show Res.rec false _ (Res.rec .no (fun x c H l => f x g c H l) (m g c H l) : Res β) = (Res.rec false (fun x c H l => up (f x) g c H l k) (m g c H l) : Bool)
  cases m g c H l <;> rfl
theorem up_log (n : Nat) (b : Bool) (m : Ev.M α) : up (.log n b m) = .log n b (up m) := by
  funext g c H l k; cases g <;> rfl
theorem up_read0 (n : Nat) (f : Blk → Ev.M α) : up (.read0 n f) = .read0 n fun b => up (f b) := by
  funext g c H l k
  show Res.rec false _ (Option.rec .no (fun b => f b g c H l) (H.get n) : Res α) = getC H n false fun b => up (f b) g c H l k
  rw [getC_eq]
  cases H.get n <;> rfl
theorem up_read (n : Nat) (f : Blk → Ev.M α) : up (.read n f) = .read n fun b => up (f b) := by
  unfold Ev.M.read M.read; rw [up_log, up_read0]
theorem up_put0 (n : Nat) (b : Option Blk) (m : Ev.M α) : up (.put0 n b m) = .put0 n b (up m) := by
  funext g c H l k
  show (Res.rec false (fun x c H l => k x c H l) (Bool.rec .no (H.ins .no b 40 n fun H => m g c H l) (Nat.ble 16 n) : Res α) : Bool) = (Bool.rec false (H.ins false b 40 n fun H => up m g c H l k) (Nat.ble 16 n) : Bool)
  cases Nat.ble 16 n with
  | false => rfl
  | true => exact ins_map (fun r : Res α => (Res.rec false (fun x c H l => k x c H l) r : Bool)) .no b 40 H n _
theorem up_new (b : Blk) (f : Nat → Ev.M α) : up (.new b f) = .new b fun n => up (f n) := by
  funext g c H l k
  show Res.rec false _ (Option.rec (Bool.rec .no (H.ins .no (some b) 40 c fun H => f c g (Nat.succ c) H l) (Nat.blt c big)) (fun _ => .no) (H.get c) : Res α) = forceN c fun c => getC H c (Bool.rec false (H.ins false (some b) 40 c fun H => up (f c) g (Nat.succ c) H l k) (Nat.blt c big)) fun _ => false
  rw [forceN_eq, getC_eq]
  cases H.get c with
  | some _ => rfl
  | none => cases Nat.blt c big with
    | false => rfl
    | true => exact ins_map (fun r : Res α => (Res.rec false (fun x c H l => k x c H l) r : Bool)) .no (some b) 40 H c _
theorem up_opt {x : Option β} (f : β → Ev.M α) : up (.opt x f) = .opt x fun y => up (f y) := by cases x <;> rfl
theorem up_iff (b : Bool) (m : Ev.M α) : up (.iff b m) = .iff b (up m) := by cases b <;> rfl
theorem up_ins {γ : Type} (t : Trie γ) (no : Ev.M α) (a : Option γ) (f n : Nat) (k : Trie γ → Ev.M α) : up (t.ins no a f n k) = t.ins (up no) a f n fun x => up (k x) := ins_map up no a f t n k
theorem up_onB (v : Value) (no : Ev.M α) (k : Bool → Ev.M α) : up (Ev.onBool v no k) = Ev.onBool v (up no) fun b => up (k b) := by cases v <;> rfl
theorem up_bool (a b : Ev.M α) (t : Bool) : up (Bool.rec (motive := fun _ => Ev.M α) a b t) = Bool.rec (motive := fun _ => M α) (up a) (up b) t := by cases t <;> rfl
theorem up_onExit (x : IExit) (no : Ev.M α) (ex : Nat → Ev.M α) (re : Ev.M α) : up (onExit x no ex re) = onExit x (up no) (fun i => up (ex i)) (up re) := by cases x <;> rfl
theorem up_pair {γ δ : Type} (p : γ × δ) (f : γ → δ → Ev.M α) : up (Prod.rec (motive := fun _ => Ev.M α) f p) = Prod.rec (motive := fun _ => M α) (fun x y => up (f x y)) p := rfl
end
theorem up_onBool (v : Value) (no : Ev.M Value) (k : Bool → Ev.M Value) : up (Ev.onBool v no k) = onBool v (up no) fun b => up (k b) := by cases v <;> rfl
theorem up_onInt (v : Value) (no : Ev.M Value) (k : IntKind → Int → Ev.M Value) : up (Ev.onInt v no k) = onInt v (up no) fun a b => up (k a b) := by cases v <;> rfl
theorem up_onPtrO (v : Value) (no : Ev.M Value) (k : Option Addr → Ev.M Value) : up (Ev.onPtrO v no k) = onPtrO v (up no) fun a => up (k a) := by cases v <;> rfl
theorem up_onSlice (v : Value) (no : Ev.M Value) (k : Option Addr → Nat → Nat → Ev.M Value) : up (Ev.onSlice v no k) = onSlice v (up no) fun a b c => up (k a b c) := by cases v <;> rfl
theorem up_onFunc (v : Value) (no : Ev.M Value) (k : Fn → Array Value → Array Value → Ev.M Value) : up (Ev.onFunc v no k) = onFunc v (up no) fun a b c => up (k a b c) := by cases v <;> rfl
theorem up_onAgg (v : Value) (no : Ev.M Value) (k : Array Value → Ev.M Value) : up (Ev.onAgg v no k) = onAgg v (up no) fun a => up (k a) := by cases v <;> rfl
theorem up_onTuple (v : Value) (no : Ev.M Value) (k : Array Value → Ev.M Value) : up (Ev.onTuple v no k) = onTuple v (up no) fun a => up (k a) := by cases v <;> rfl
theorem up_onAddr (a : Option Addr) (no : Ev.M Value) (k : Nat → Nat → Ev.M Value) : up (Ev.onAddr a no k) = onAddr a (up no) fun b o => up (k b o) := by
  rcases a with _ | ⟨b, o, _ | s⟩ <;> rfl
theorem up_onPtr (v : Value) (no : Ev.M Value) (k : Nat → Nat → Ev.M Value) : up (Ev.onPtr v no k) = onPtr v (up no) fun b o => up (k b o) := by
  unfold Ev.onPtr onPtr
  rw [up_onPtrO]
  congr 1; funext a; exact up_onAddr a no k
theorem up_onFn (f : Fn) (no : Ev.M Value) (k : FuncId → Ev.M Value) : up (onFn f no k) = onFn f (up no) fun g => up (k g) := by cases f <;> rfl
theorem up_onNat (v : Value) (no : Ev.M Value) (k : Nat → Ev.M Value) : up (Ev.onNat v no k) = onNat v (up no) fun n => up (k n) := by
  unfold Ev.onNat onNat
  rw [up_onInt]
  congr 1; funext _ n; cases n <;> rfl
theorem evO_eq {R : Type} (T : Trie Value) (x : Operand) (k : Value → R) : evO T x k = k (evalO T x) := by
  cases x with
  | tmp t =>
    show getC T t (k undef) k = k (Option.rec undef (fun v => v) (T.get t))
    rw [getC_eq]
    cases T.get t <;> rfl
  | _ => rfl
theorem evL_eq {R : Type} (T : Trie Value) : ∀ (xs : List Operand) (k : List Value → R), evL T xs k = k (mapK (evalO T) xs)
  | [], _ => rfl
  | x :: r, k => by
    show evO T x (fun v => evL T r fun vs => k (v :: vs)) = _
    rw [evO_eq, evL_eq T r]
    rfl
theorem forced_eq (v : Value) (k : Value → M (Trie Value)) : forced v k = k v := by
  cases v with
  | bool b => cases b <;> rfl
  | int kd n => cases n with
    | ofNat m => exact forceN_eq m fun m => k (.int kd (.ofNat m))
    | negSucc m => exact forceN_eq m fun m => k (.int kd (.negSucc m))
  | pointer a => exact forceA_eq a fun a => k (.pointer a)
  | slice a n c =>
    show forceA a (fun a => forceN n fun n => forceN c fun c => k (.slice a n c)) = _
    rw [forceA_eq, forceN_eq, forceN_eq]
  | _ => rfl
theorem forced_eq0 {R : Type} (v : Value) (k : Value → R) : Ev.forced v k = k v := by
  cases v with
  | bool b => cases b <;> rfl
  | int kd n => cases n with
    | ofNat m => cases m <;> rfl
    | negSucc m => cases m <;> rfl
  | _ => rfl

/-! ### Pieces of lists -/
theorem take_map {α R S : Type} (f : R → S) (no : R) : ∀ (n : Nat) (xs : List α) (k : List α → R), f (takeK no n xs k) = takeK (f no) n xs fun ys => f (k ys)
  | 0, _, _ => rfl
  | _ + 1, [], _ => rfl
  | n + 1, x :: r, k => take_map f no n r fun ys => k (x :: ys)
theorem cut_map {α R S : Type} (f : R → S) (no : R) (o n : Nat) (xs : List α) (k : List α → R) : f (cut o n xs no k) = cut o n xs (f no) fun ys => f (k ys) := take_map f no n _ k
theorem over_map {α R S : Type} (f : R → S) (no : R) : ∀ (vs xs : List α) (k : List α → R), f (over no vs xs k) = over (f no) vs xs fun ys => f (k ys)
  | [], _, _ => rfl
  | _ :: _, [], _ => rfl
  | v :: vs, _ :: r, k => over_map f no vs r fun ys => k (v :: ys)
theorem overAt_map {α R S : Type} (f : R → S) (no : R) (vs : List α) : ∀ (o : Nat) (xs : List α) (k : List α → R), f (overAt o vs no xs k) = overAt o vs (f no) xs fun ys => f (k ys)
  | 0, xs, k => over_map f no vs xs k
  | _ + 1, [], _ => rfl
  | o + 1, x :: r, k => overAt_map f no vs o r fun ys => k (x :: ys)
theorem fill_map {R S : Type} (f : R → S) (no : R) : ∀ (ps : List (Nat × Nat × List Value)) (cs : List Value) (k : List Value → R), f (fillK no ps cs k) = fillK (f no) ps cs fun ys => f (k ys)
  | [], _, _ => rfl
  | (off, size, vs) :: ps, cs, k => by
    show f (Bool.rec no (overAt off vs no cs fun cs => fillK no ps cs k) (lenIs size vs)) = (Bool.rec (f no) (overAt off vs (f no) cs fun cs => fillK (f no) ps cs fun ys => f (k ys)) (lenIs size vs) : S)
    cases lenIs size vs with
    | false => rfl
    | true =>
      refine (overAt_map f no vs off cs fun cs => fillK no ps cs k).trans ?_
      congr 1; funext cs; exact fill_map f no ps cs k
theorem valOf_map {R S : Type} (f : R → S) (agg : Bool) (cs : List Value) (no : R) (k : Value → R) : f (valOf agg cs no k) = valOf agg cs (f no) fun v => f (k v) := by
  cases agg with
  | true => rfl
  | false => rcases cs with _ | ⟨v, _ | ⟨u, r⟩⟩ <;> rfl
theorem nth_map {α R S : Type} (f : R → S) (no : R) (k : α → R) : ∀ (n : Nat) (xs : List α), f (nth no k n xs) = nth (f no) (fun x => f (k x)) n xs
  | 0, [] => rfl
  | 0, _ :: _ => rfl
  | _ + 1, [] => rfl
  | n + 1, _ :: r => nth_map f no k n r

/-! ### Operations -/
theorem up_newRow (e : TypeId) (cs : List Value) : up (Ev.newRow e cs) = newRow e cs := by
  unfold Ev.newRow newRow; rw [up_new]; rfl
theorem up_loadM (b o n : Nat) (g : Bool) : up (Ev.loadM b o n g) = loadM b o n g := by
  unfold Ev.loadM loadM
  rw [up_read]
  congr 1; funext k
  rw [cut_map up]
  congr 1; funext cs
  rw [valOf_map up]; rfl
theorem up_storeM {α : Type} (b o : Nat) (vs : List Value) (m : Ev.M α) : up (Ev.storeM b o vs m) = storeM b o vs (up m) := by
  unfold Ev.storeM storeM
  rw [up_log, up_read0]
  congr 2; funext x
  rw [overAt_map up]
  congr 1; funext cs
  exact up_put0 _ _ _
section
variable {R S : Type} (f : R → S)
theorem div_map (g : Nat → Nat → Nat) (a b : Int) (no : R) (k : Int → R) : f (divK g a b no k) = divK g a b (f no) fun n => f (k n) := by
  cases a <;> rcases b with (_ | n) | n <;> rfl
theorem bit_map (g : Nat → Nat → Nat) (a b : Int) (no : R) (k : Int → R) : f (bitK g a b no k) = bitK g a b (f no) fun n => f (k n) := by
  cases a with
  | negSucc m => rfl
  | ofNat m => cases b with
    | negSucc n => rfl
    | ofNat n =>
      show f (Bool.rec no (k (.ofNat (g m n))) (andK (Nat.blt m 9223372036854775808) (Nat.blt n 9223372036854775808))) = (Bool.rec (f no) (f (k (.ofNat (g m n)))) (andK (Nat.blt m 9223372036854775808) (Nat.blt n 9223372036854775808)) : S)
      cases andK (Nat.blt m 9223372036854775808) (Nat.blt n 9223372036854775808) <;> rfl
theorem shl_map (kd : IntKind) (a b : Int) (no : R) (k : Int → R) : f (shlK kd a b no k) = shlK kd a b (f no) fun n => f (k n) := by
  cases a with
  | negSucc m => rfl
  | ofNat m => cases b with
    | negSucc n => rfl
    | ofNat n =>
      show f (Bool.rec no (k (wrapK kd (.ofNat (Nat.mul m (Nat.pow 2 n))))) (Nat.blt n 64)) = (Bool.rec (f no) (f (k (wrapK kd (.ofNat (Nat.mul m (Nat.pow 2 n)))))) (Nat.blt n 64) : S)
      cases Nat.blt n 64 <;> rfl
theorem shr_map (a b : Int) (no : R) (k : Int → R) : f (shrK a b no k) = shrK a b (f no) fun n => f (k n) := by
  cases a with
  | negSucc m => rfl
  | ofNat m => cases b with
    | negSucc n => rfl
    | ofNat n =>
      show f (Bool.rec no (k (.ofNat (Nat.div m (Nat.pow 2 n)))) (Nat.blt n 64)) = (Bool.rec (f no) (f (k (.ofNat (Nat.div m (Nat.pow 2 n))))) (Nat.blt n 64) : S)
      cases Nat.blt n 64 <;> rfl
theorem bin_map (op : BinOp) (kd : IntKind) (a b : Int) (no : R) (k : Value → R) : f (binK op kd a b no k) = binK op kd a b (f no) fun v => f (k v) := by
  cases op with
  | quo => exact div_map f Nat.div a b no fun n => k (.int kd (wrapK kd n))
  | rem => exact div_map f Nat.mod a b no fun n => k (.int kd n)
  | and => exact bit_map f Nat.land a b no fun n => k (.int kd n)
  | or => exact bit_map f Nat.lor a b no fun n => k (.int kd n)
  | shl => exact shl_map f kd a b no fun n => k (.int kd n)
  | shr => exact shr_map f a b no fun n => k (.int kd n)
  | _ => rfl
end
section
variable (T : Trie Value) (cl : Ev.CL) (cl' : CL)
theorem s_mv (x : Operand) : up (Ev.oMv x (evalO T) cl) = oMv x T cl' := by
  unfold Ev.oMv oMv; rw [evO_eq]; rfl
theorem s_pick (c a b : Operand) : up (Ev.oPick c a b (evalO T) cl) = oPick c a b T cl' := by
  unfold Ev.oPick oPick
  rw [evO_eq, up_onBool]
  congr 1; funext t
  rw [evO_eq, evO_eq]
  cases t <;> rfl
theorem s_alloc (e : TypeId) (z : List Value) : up (Ev.oAlloc e z (evalO T) cl) = oAlloc e z T cl' := up_newRow e z
theorem s_box (e : TypeId) (x : Operand) : up (Ev.oBox e x (evalO T) cl) = oBox e x T cl' := by
  unfold Ev.oBox oBox; rw [evO_eq, up_iff, up_newRow]
theorem s_build (z : List Value) (ps : List (Nat × Nat × Operand)) : up (Ev.oBuild z ps (evalO T) cl) = oBuild z ps T cl' := by
  unfold Ev.oBuild oBuild; rw [fill_map up]; rfl
theorem s_load (n : Nat) (g : Bool) (a : Operand) : up (Ev.oLoad n g a (evalO T) cl) = oLoad n g a T cl' := by
  unfold Ev.oLoad oLoad; rw [evO_eq, up_onPtr]
  congr 1; funext b o; exact up_loadM b o n g
theorem s_store (n : Nat) (a x : Operand) : up (Ev.oStore n a x (evalO T) cl) = oStore n a x T cl' := by
  unfold Ev.oStore oStore; rw [evO_eq, up_onPtr]
  congr 1; funext b o; rw [evO_eq, up_iff, up_storeM]; rfl
theorem s_chk (x : Operand) : up (Ev.oChk x (evalO T) cl) = oChk x T cl' := by
  unfold Ev.oChk oChk; rw [evO_eq, up_onPtrO, up_onFunc]
  congr 1
  · congr 1; funext f a b; exact up_onFn f _ _
  · funext a; cases a <;> rfl
theorem s_bin (op : BinOp) (x y : Operand) : up (Ev.oBin op x y (evalO T) cl) = oBin op x y T cl' := by
  unfold Ev.oBin oBin; rw [evO_eq, up_onInt]
  congr 1; funext k a; rw [evO_eq, up_onInt]
  congr 1; funext j b; rw [up_iff, bin_map up]; rfl
theorem s_beq (n : Bool) (x y : Operand) : up (Ev.oBeq n x y (evalO T) cl) = oBeq n x y T cl' := by
  unfold Ev.oBeq oBeq; rw [evO_eq, up_onBool]
  congr 1; funext a; rw [evO_eq, up_onBool]
  congr 1
theorem s_nilP (n : Bool) (x : Operand) : up (Ev.oNilP n x (evalO T) cl) = oNilP n x T cl' := by
  unfold Ev.oNilP oNilP; rw [evO_eq, up_onPtrO]; congr 1
theorem s_nilS (n : Bool) (x : Operand) : up (Ev.oNilS n x (evalO T) cl) = oNilS n x T cl' := by
  unfold Ev.oNilS oNilS; rw [evO_eq, up_onSlice]; congr 1
theorem s_not (x : Operand) : up (Ev.oNot x (evalO T) cl) = oNot x T cl' := by
  unfold Ev.oNot oNot; rw [evO_eq, up_onBool]; congr 1
theorem s_conv (k : IntKind) (x : Operand) : up (Ev.oConv k x (evalO T) cl) = oConv k x T cl' := by
  unfold Ev.oConv oConv; rw [evO_eq, up_onInt]; congr 1
theorem s_fld (o : Nat) (x : Operand) : up (Ev.oFld o x (evalO T) cl) = oFld o x T cl' := by
  unfold Ev.oFld oFld; rw [evO_eq, up_onPtr]; congr 1
theorem s_part (o n : Nat) (g : Bool) (x : Operand) : up (Ev.oPart o n g x (evalO T) cl) = oPart o n g x T cl' := by
  unfold Ev.oPart oPart; rw [evO_eq, up_onAgg]
  congr 1; funext cs; rw [cut_map up]
  congr 1; funext r; rw [valOf_map up]; rfl
theorem s_idx (n : Nat) (x i : Operand) : up (Ev.oIdx n x i (evalO T) cl) = oIdx n x i T cl' := by
  unfold Ev.oIdx oIdx; rw [evO_eq, up_onSlice]
  congr 1; funext a l _; rw [up_onAddr]
  congr 1; funext b o; rw [evO_eq, up_onNat]
  congr 1; funext i; rw [up_iff]; rfl
theorem s_ext (i : Nat) (x : Operand) : up (Ev.oExt i x (evalO T) cl) = oExt i x T cl' := by
  unfold Ev.oExt oExt; rw [evO_eq, up_onTuple]
  congr 1; funext vs; exact nth_map up _ _ _ _
theorem s_len (x : Operand) : up (Ev.oLen x (evalO T) cl) = oLen x T cl' := by
  unfold Ev.oLen oLen; rw [evO_eq, up_onSlice]; congr 1
theorem s_call (h : ∀ f l, cl' f l = up (cl f l)) (f : Operand) (xs : List Operand) : up (Ev.oCall f xs (evalO T) cl) = oCall f xs T cl' := by
  unfold Ev.oCall oCall; rw [evO_eq, up_onFunc]
  congr 1; funext f a b; rw [up_onFn]
  congr 1; funext g; rw [evL_eq, h]
theorem op_up (h : ∀ f l, cl' f l = up (cl f l)) (o : DOp) : up (shalOp o (evalO T) cl) = opC o T cl' := by
  cases o with
  | oMv x => exact s_mv T cl cl' x
  | oPick a b c => exact s_pick T cl cl' a b c
  | oAlloc e z => exact s_alloc T cl cl' e z
  | oBox e x => exact s_box T cl cl' e x
  | oBuild z p => exact s_build T cl cl' z p
  | oLoad n g a => exact s_load T cl cl' n g a
  | oStore n a x => exact s_store T cl cl' n a x
  | oChk x => exact s_chk T cl cl' x
  | oBin op x y => exact s_bin T cl cl' op x y
  | oBeq n x y => exact s_beq T cl cl' n x y
  | oNilP n x => exact s_nilP T cl cl' n x
  | oNilS n x => exact s_nilS T cl cl' n x
  | oNot x => exact s_not T cl cl' x
  | oConv k x => exact s_conv T cl cl' k x
  | oFld o x => exact s_fld T cl cl' o x
  | oPart o n g x => exact s_part T cl cl' o n g x
  | oIdx n x i => exact s_idx T cl cl' n x i
  | oExt i x => exact s_ext T cl cl' i x
  | oLen x => exact s_len T cl cl' x
  | oCall f xs => exact s_call T cl cl' h f xs
  | _ => rfl
theorem put_up (d : Option Nat) (v : Value) : up (Ev.putT T d v) = putT T d v := by
  cases d with
  | none => rfl
  | some d =>
    show up (Ev.forced v fun v => T.ins .fail (some v) 20 d .ret) = forced v fun v => T.ins .fail (some v) 20 d .ret
    rw [forced_eq0, forced_eq, up_ins]; rfl
theorem putR_eq (d : Option Nat) (v : Value) : putR T d v = putT T d v := by
  cases d with
  | none => rfl
  | some d => exact (forced_eq v fun v => T.ins .fail (some v) 20 d .ret).symm
theorem oper_up (h : ∀ f l, cl' f l = up (cl f l)) (o : DOper) : up (Ev.evOper cl T (shalO o)) = evOper cl' T o := by
  unfold Ev.evOper evOper
  rw [up_bind]
  congr 1
  · show up (Bool.rec (.ret undef) (shalOp o.op (evalO T) cl) (wantedT T o.guard)) = (Bool.rec (.ret undef) (opC o.op T cl') (wantedT T o.guard) : M Value)
    rw [← op_up T cl cl' h]
    cases wantedT T o.guard <;> rfl
  · funext v
    cases isMv o.op
    · exact put_up T o.dst v
    · exact (put_up T o.dst v).trans (putR_eq T o.dst v).symm
end
section
variable (cl : Ev.CL) (cl' : CL)
theorem seq_up (h : ∀ f l, cl' f l = up (cl f l)) : ∀ (ops : List DOper) (T : Trie Value), up (Ev.evSeq cl (mapK shalO ops) T) = evSeq cl' ops T
  | [], _ => rfl
  | o :: r, T => by
    show up (.bind (Ev.evOper cl T (shalO o)) (Ev.evSeq cl (mapK shalO r))) = .bind (evOper cl' T o) (evSeq cl' r)
    rw [up_bind, oper_up T cl cl' h]
    congr 1; funext T; exact seq_up h r T
theorem logged_up {α : Type} (m : Ev.M α) : up (Ev.logged m) = logged (up m) := by
  funext g c H l k
  show Res.rec false _ (Res.rec .no (fun x c1 H1 d => .ok (x, ⟨c, c1, d⟩) c1 H1 (Bool.rec l (appK d l) g)) (m true c H []) : Res (α × Did)) = (Res.rec false _ (m true c H []) : Bool)
  cases m true c H [] <;> rfl
theorem logs_up (h : ∀ f l, cl' f l = up (cl f l)) : ∀ (ops : List DOper) (T : Trie Value) (ds : List Did), up (Ev.evLogs cl (mapK shalO ops) T ds) = evLogs cl' ops T ds
  | [], _, _ => rfl
  | o :: r, T, ds => by
    show up (.bind (Ev.logged (Ev.evOper cl T (shalO o))) fun p => Prod.rec (fun T d => Ev.evLogs cl (mapK shalO r) T (d :: ds)) p) = .bind (logged (evOper cl' T o)) fun p => Prod.rec (fun T d => evLogs cl' r T (d :: ds)) p
    rw [up_bind, logged_up, oper_up T cl cl' h]
    congr 1; funext p; exact logs_up h r p.1 (p.2 :: ds)
theorem draw_up (h : ∀ f l, cl' f l = up (cl f l)) (ops : List DOper) (ps : List (Nat × Nat)) (T : Trie Value) : up (Ev.evDraw cl (mapK shalO ops) ps T) = evDraw cl' ops ps T := by
  unfold Ev.evDraw evDraw
  rw [up_bind, logs_up cl cl' h]
  congr 1; funext p; exact up_iff (pairsOk p.2 ps) (Ev.M.ret p.1)
theorem loop_up (b : Trie Value → Ev.M (IExit × Trie Value)) (b' : Trie Value → M (IExit × Trie Value)) (hb : ∀ T, up (b T) = b' T) : ∀ (n : Nat) (T : Trie Value), up (Ev.loopN b n T) = loopN b' n T
  | 0, _ => rfl
  | n + 1, T => by
    show up (Ev.M.bind (b T) fun r => Prod.rec (fun x T => onExit x (Ev.loopN b n T) (fun i => .ret (IExit.exit i, T)) (.ret (IExit.ret, T))) r) = .bind (b' T) fun r => Prod.rec (fun x T => onExit x (loopN b' n T) (fun i => .ret (IExit.exit i, T)) (.ret (IExit.ret, T))) r
    rw [up_bind, hb]
    congr 1; funext ⟨x, T⟩
    refine (up_onExit x _ _ _).trans ?_
    rw [loop_up b b' hb n T]; rfl
theorem code_up (h : ∀ f l, cl' f l = up (cl f l)) (d : DCode) : ∀ T, up (shalC d cl T) = codeC d cl' T := by
  induction d with
  | cSkip => intro T; rfl
  | cSeqR ops =>
    intro T
    show up (Ev.M.bind (Ev.evSeq cl (mapK shalO ops) T) fun T => .ret (IExit.normal, T)) = .bind (evSeq cl' ops T) fun T => .ret (IExit.normal, T)
    rw [up_bind, seq_up cl cl' h]; rfl
  | cDraw ops ps =>
    intro T
    show up (Ev.M.bind (Ev.evDraw cl (mapK shalO ops) ps T) fun T => .ret (IExit.normal, T)) = .bind (evDraw cl' ops ps T) fun T => .ret (IExit.normal, T)
    rw [up_bind, draw_up cl cl' h]; rfl
  | cSeq a b ha hb =>
    intro T
    show up (Ev.M.bind (shalC a cl T) fun r => Prod.rec (fun x T => onExit x (shalC b cl T) (fun i => .ret (IExit.exit i, T)) (.ret (IExit.ret, T))) r) = .bind (codeC a cl' T) fun r => Prod.rec (fun x T => onExit x (codeC b cl' T) (fun i => .ret (IExit.exit i, T)) (.ret (IExit.ret, T))) r
    rw [up_bind, ha]
    congr 1; funext ⟨x, T⟩
    refine (up_onExit x _ _ _).trans ?_
    rw [hb]; rfl
  | cCond c x y hx hy =>
    intro T
    show up (Ev.onBool (evalO T c) .fail fun t => (Bool.rec (shalC y cl T) (shalC x cl T) t : Ev.M (IExit × Trie Value))) = evO T c fun v => Ev.onBool v .fail fun t => (Bool.rec (codeC y cl' T) (codeC x cl' T) t : M (IExit × Trie Value))
    rw [evO_eq, up_onB]
    congr 1; funext t
    cases t
    · exact hy T
    · exact hx T
  | cBlock id b hb =>
    intro T
    show up (Ev.M.bind (shalC b cl T) fun r => Prod.rec (fun x T => onExit x (.ret (IExit.normal, T)) (fun i => .ret (Bool.rec (IExit.exit i, T) (IExit.normal, T) (Nat.beq i id))) (.ret (IExit.ret, T))) r) = .bind (codeC b cl' T) fun r => Prod.rec (fun x T => onExit x (.ret (IExit.normal, T)) (fun i => .ret (Bool.rec (IExit.exit i, T) (IExit.normal, T) (Nat.beq i id))) (.ret (IExit.ret, T))) r
    rw [up_bind, hb]
    congr 1; funext ⟨x, T⟩
    exact up_onExit x _ _ _
  | cLoop b hb => intro T; exact loop_up _ _ hb rounds T
  | cExit id => intro T; rfl
  | cRet => intro T; rfl
end
theorem res_up (T : Trie Value) : ∀ (rs : List RVar) (k : List Value → Ev.M Value) (k' : List Value → M Value), (∀ vs, up (k vs) = k' vs) → up (Ev.evRes T rs k) = evRes T rs k'
  | [], _, _, hk => hk []
  | .tmp t :: r, k, k', hk => by
    show up (Ev.evRes T r fun vs => k (evalO T (.tmp t) :: vs)) = evO T (.tmp t) fun v => evRes T r fun vs => k' (v :: vs)
    rw [evO_eq]
    exact res_up T r _ _ fun vs => hk _
  | .cell a n g :: r, k, k', hk => by
    show up (Ev.onPtr (evalO T (.tmp a)) .fail fun b o => .bind (Ev.loadM b o n g) fun v => Ev.evRes T r fun vs => k (v :: vs)) = evO T (.tmp a) fun v => onPtr v .fail fun b o => .bind (loadM b o n g) fun v => evRes T r fun vs => k' (v :: vs)
    rw [evO_eq, up_onPtr]
    congr 1; funext b o
    rw [up_bind, up_loadM]
    congr 1; funext v
    exact res_up T r _ _ fun vs => hk _
theorem args_up : ∀ (vs : List Value) (n : Nat) (T : Trie Value) (k : Trie Value → Ev.M Value), up (Ev.argsT vs n T k) = argsT vs n T fun T => up (k T)
  | [], _, _, _ => rfl
  | v :: r, n, T, k => by
    show up (T.ins .fail (some v) 20 n fun T => Ev.argsT r (Nat.succ n) T k) = T.ins .fail (some v) 20 n fun T => argsT r (Nat.succ n) T fun T => up (k T)
    rw [up_ins]
    congr 1; funext T; exact args_up r _ T k
theorem enter_up {F : Trie EFunc} {D : Trie DFunc} (hF : ∀ f, F.get f = (D.get f).map shalF) (cl : Ev.CL) (cl' : CL) (h : ∀ f l, cl' f l = up (cl f l)) (f : Nat) (args : List Value) : up (Ev.enterF F cl f args) = enterF D cl' f args := by
  unfold Ev.enterF enterF
  rw [hF f]
  cases D.get f with
  | none => rfl
  | some fn =>
    show up (Ev.argsT args 0 .leaf fun T => .bind (shalC fn.body cl T) fun r => onExit r.1 (Ev.evRes r.2 fn.results fun vs => .ret (packV vs)) (fun _ => .fail) (Ev.evRes r.2 fn.results fun vs => .ret (packV vs))) = _
    rw [args_up]
    show _ = argsT args 0 .leaf fun T => .bind (codeC fn.body cl' T) fun r => Prod.rec (fun x T => onExit x (evRes T fn.results fun vs => .ret (packV vs)) (fun _ => .fail) (evRes T fn.results fun vs => .ret (packV vs))) r
    congr 1; funext T
    rw [up_bind, code_up cl cl' h]
    congr 1; funext ⟨x, T⟩
    refine (up_onExit x _ _ _).trans ?_
    rw [res_up T fn.results _ (fun vs => .ret (packV vs)) fun vs => rfl]; rfl
end Go.Proofs.YtedipingocmmdaaGreat.Ev.C

