/- The evaluator with continuations, on code as it is printed: what it is. The kernel keeps little of such a run. (printed by gen_evp.py) -/
import Derived.Test.YtedipingocmmdaaGreatEvA
namespace Go.Proofs.YtedipingocmmdaaGreat.Ev
open Go

/-! ### Code, as it is printed -/
inductive DOp where
  | oMv (x : Operand)
  | oPick (c a b : Operand)
  | oAlloc (elem : TypeId) (z : List Value)
  | oBox (elem : TypeId) (x : Operand)
  | oBuild (z : List Value) (parts : List (Nat × Nat × Operand))
  | oBslice (elem : TypeId) (len : Nat) (z : List Value) (parts : List (Nat × Nat × Operand))
  | oLoad (n : Nat) (agg : Bool) (a : Operand)
  | oStore (n : Nat) (a x : Operand)
  | oChk (x : Operand)
  | oBin (op : BinOp) (x y : Operand)
  | oBeq (neg : Bool) (x y : Operand)
  | oNilP (neg : Bool) (x : Operand)
  | oNilS (neg : Bool) (x : Operand)
  | oNot (x : Operand)
  | oConv (k : IntKind) (x : Operand)
  | oMkFn (f : FuncId) (a b : List Operand)
  | oMkSlice (elem : TypeId) (size bytes : Nat) (z : List Value) (l c : Operand)
  | oSlice (elem : TypeId) (size : Nat) (x : Operand) (lo hi mx : Option Operand)
  | oFld (off : Nat) (x : Operand)
  | oPart (off size : Nat) (agg : Bool) (x : Operand)
  | oIdx (size : Nat) (x i : Operand)
  | oExt (i : Nat) (x : Operand)
  | oLen (x : Operand)
  | oCap (x : Operand)
  | oLeast (x y : Operand)
  | oMost (x y : Operand)
  | oAppend (elem : TypeId) (size bytes : Nat) (x y : Operand)
  | oCopy (size : Nat) (x y : Operand)
  | oCall (f : Operand) (args : List Operand)
  | oEq2 (neg : Bool) (x y : Operand)
  | oBad
structure DOper where
  dst : Option Nat
  guard : Option (Nat × Bool)
  op : DOp
inductive DCode where
  | cSkip
  | cSeqR (ops : List DOper)
  | cDraw (ops : List DOper) (pairs : List (Nat × Nat))
  | cSeq (a b : DCode)
  | cCond (c : Operand) (x y : DCode)
  | cBlock (id : Nat) (b : DCode)
  | cLoop (b : DCode)
  | cExit (id : Nat)
  | cRet
structure DFunc where
  ntmps : Nat
  body : DCode
  results : List RVar
noncomputable def shalOp : DOp → Opn := @DOp.rec (fun _ => Opn) oMv oPick oAlloc oBox oBuild oBslice oLoad oStore oChk oBin oBeq oNilP oNilS oNot oConv oMkFn oMkSlice oSlice oFld oPart oIdx oExt oLen oCap oLeast oMost oAppend oCopy oCall oEq2 oBad
noncomputable def shalO (o : DOper) : SOper := ⟨o.dst, o.guard, shalOp o.op⟩
noncomputable def shalC : DCode → EC := @DCode.rec (fun _ => EC) cSkip (fun ops => cSeqR (mapK shalO ops)) (fun ops pairs => cDraw (mapK shalO ops) pairs)
  (fun _ _ a b => cSeq a b) (fun c _ _ x y => cCond c x y) (fun id _ b => cBlock id b) (fun _ b => cLoop b) cExit cRet
noncomputable def shalF (f : DFunc) : EFunc := ⟨f.ntmps, shalC f.body, f.results⟩

namespace C
/-- A computation with a continuation. -/
abbrev M (α : Type) := Bool → Nat → Mem → Log → (α → Nat → Mem → Log → Bool) → Bool
noncomputable def up {α : Type} (m : Ev.M α) : M α := fun g c H l k => Res.rec false (fun x c H l => k x c H l) (m g c H l)
noncomputable def forceN {R : Type} (n : Nat) (k : Nat → R) : R := Nat.rec (k 0) (fun m _ => k (Nat.succ m)) n
noncomputable def getC {α R : Type} (t : Trie α) (n : Nat) (no : R) (k : α → R) : R :=
  Trie.rec (fun _ => no) (fun _ v _ gl gr n => Bool.rec (Bool.rec (gr (Nat.sub (Nat.div n 2) 1)) (gl (Nat.div n 2)) (Nat.beq (Nat.mod n 2) 1)) (Option.rec no k v) (Nat.beq n 0)) t n
namespace M
def ret {α : Type} (x : α) : M α := fun _ c H l k => k x c H l
def fail {α : Type} : M α := fun _ _ _ _ _ => false
noncomputable def bind {α β : Type} (m : M α) (f : α → M β) : M β := fun g c H l k => m g c H l fun x c H l => f x g c H l k
noncomputable def log {α : Type} (n : Nat) (b : Bool) (m : M α) : M α := fun g c H l k => Bool.rec (m false c H l k) (m true c H ((n, b) :: l) k) g
noncomputable def read0 {α : Type} (n : Nat) (f : Blk → M α) : M α := fun g c H l k => getC H n false fun b => f b g c H l k
noncomputable def read {α : Type} (n : Nat) (f : Blk → M α) : M α := log n false (read0 n f)
noncomputable def put0 {α : Type} (n : Nat) (b : Option Blk) (m : M α) : M α := fun g c H l k => Bool.rec false (H.ins false b 40 n fun H => m g c H l k) (Nat.ble 16 n)
noncomputable def new {α : Type} (b : Blk) (f : Nat → M α) : M α := fun g c H l k => forceN c fun c =>
  getC H c (Bool.rec false (H.ins false (some b) 40 c fun H => f c g (Nat.succ c) H l k) (Nat.blt c big)) fun _ => false
noncomputable def opt {α β : Type} (x : Option α) (f : α → M β) : M β := Option.rec fail f x
noncomputable def iff {α : Type} (b : Bool) (m : M α) : M α := Bool.rec fail m b
end M

/-! ### Looking at values -/
noncomputable def onBool : Value → M Value → (Bool → M Value) → M Value := @Value.rec (fun _ => M Value → (Bool → M Value) → M Value) (fun _ => Unit) (fun _ => Unit) (fun b _ k => k b) (fun _ _ no _ => no) (fun _ _ no _ => no) (fun _ _ _ no _ => no) (fun _ no _ => no) (fun _ no _ => no) (fun _ _ _ no _ => no) (fun _ no _ => no) (fun _ no _ => no) (fun _ _ _ _ _ no _ => no) (fun no _ => no) (fun _ _ _ no _ => no) (fun no _ => no) (fun _ _ no _ => no) (fun _ _ no _ => no) (fun _ _ => ()) () (fun _ _ _ _ => ())
noncomputable def onInt : Value → M Value → (IntKind → Int → M Value) → M Value := @Value.rec (fun _ => M Value → (IntKind → Int → M Value) → M Value) (fun _ => Unit) (fun _ => Unit) (fun _ no _ => no) (fun a b _ k => k a b) (fun _ _ no _ => no) (fun _ _ _ no _ => no) (fun _ no _ => no) (fun _ no _ => no) (fun _ _ _ no _ => no) (fun _ no _ => no) (fun _ no _ => no) (fun _ _ _ _ _ no _ => no) (fun no _ => no) (fun _ _ _ no _ => no) (fun no _ => no) (fun _ _ no _ => no) (fun _ _ no _ => no) (fun _ _ => ()) () (fun _ _ _ _ => ())
noncomputable def onPtrO : Value → M Value → (Option Addr → M Value) → M Value := @Value.rec (fun _ => M Value → (Option Addr → M Value) → M Value) (fun _ => Unit) (fun _ => Unit) (fun _ no _ => no) (fun _ _ no _ => no) (fun _ _ no _ => no) (fun _ _ _ no _ => no) (fun _ no _ => no) (fun a _ k => k a) (fun _ _ _ no _ => no) (fun _ no _ => no) (fun _ no _ => no) (fun _ _ _ _ _ no _ => no) (fun no _ => no) (fun _ _ _ no _ => no) (fun no _ => no) (fun _ _ no _ => no) (fun _ _ no _ => no) (fun _ _ => ()) () (fun _ _ _ _ => ())
noncomputable def onSlice : Value → M Value → (Option Addr → Nat → Nat → M Value) → M Value := @Value.rec (fun _ => M Value → (Option Addr → Nat → Nat → M Value) → M Value) (fun _ => Unit) (fun _ => Unit) (fun _ no _ => no) (fun _ _ no _ => no) (fun _ _ no _ => no) (fun _ _ _ no _ => no) (fun _ no _ => no) (fun _ no _ => no) (fun a n c _ k => k a n c) (fun _ no _ => no) (fun _ no _ => no) (fun _ _ _ _ _ no _ => no) (fun no _ => no) (fun _ _ _ no _ => no) (fun no _ => no) (fun _ _ no _ => no) (fun _ _ no _ => no) (fun _ _ => ()) () (fun _ _ _ _ => ())
noncomputable def onFunc : Value → M Value → (Fn → Array Value → Array Value → M Value) → M Value := @Value.rec (fun _ => M Value → (Fn → Array Value → Array Value → M Value) → M Value) (fun _ => Unit) (fun _ => Unit) (fun _ no _ => no) (fun _ _ no _ => no) (fun _ _ no _ => no) (fun _ _ _ no _ => no) (fun _ no _ => no) (fun _ no _ => no) (fun _ _ _ no _ => no) (fun _ no _ => no) (fun _ no _ => no) (fun f a b _ _ _ k => k f a b) (fun no _ => no) (fun _ _ _ no _ => no) (fun no _ => no) (fun _ _ no _ => no) (fun _ _ no _ => no) (fun _ _ => ()) () (fun _ _ _ _ => ())
noncomputable def onAgg : Value → M Value → (Array Value → M Value) → M Value := @Value.rec (fun _ => M Value → (Array Value → M Value) → M Value) (fun _ => Unit) (fun _ => Unit) (fun _ no _ => no) (fun _ _ no _ => no) (fun _ _ no _ => no) (fun _ _ _ no _ => no) (fun _ no _ => no) (fun _ no _ => no) (fun _ _ _ no _ => no) (fun _ no _ => no) (fun _ no _ => no) (fun _ _ _ _ _ no _ => no) (fun no _ => no) (fun _ _ _ no _ => no) (fun no _ => no) (fun a _ _ k => k a) (fun _ _ no _ => no) (fun _ _ => ()) () (fun _ _ _ _ => ())
noncomputable def onTuple : Value → M Value → (Array Value → M Value) → M Value := @Value.rec (fun _ => M Value → (Array Value → M Value) → M Value) (fun _ => Unit) (fun _ => Unit) (fun _ no _ => no) (fun _ _ no _ => no) (fun _ _ no _ => no) (fun _ _ _ no _ => no) (fun _ no _ => no) (fun _ no _ => no) (fun _ _ _ no _ => no) (fun _ no _ => no) (fun _ no _ => no) (fun _ _ _ _ _ no _ => no) (fun no _ => no) (fun _ _ _ no _ => no) (fun no _ => no) (fun _ _ no _ => no) (fun a _ _ k => k a) (fun _ _ => ()) () (fun _ _ _ _ => ())
noncomputable def onPtr (v : Value) (no : M Value) (k : Nat → Nat → M Value) : M Value := onPtrO v no fun a => onAddr a no k
noncomputable def onNat (v : Value) (no : M Value) (k : Nat → M Value) : M Value := onInt v no fun _ n => Int.rec k (fun _ => no) n
noncomputable def evO {R : Type} (T : Trie Value) (x : Operand) (k : Value → R) : R :=
  Operand.rec (fun t => getC T t (k undef) k) (fun v => k v) (fun _ => k undef) (fun f => k (.func (.func f) #[] #[])) x
noncomputable def evL {R : Type} (T : Trie Value) (xs : List Operand) : (List Value → R) → R :=
  List.rec (fun k => k []) (fun x _ ih k => evO T x fun v => ih fun vs => k (v :: vs)) xs
noncomputable def forceA {R : Type} (a : Option Addr) (k : Option Addr → R) : R :=
  Option.rec (k none) (fun a => Addr.rec (fun b o s => forceN b fun b => forceN o fun o => k (some ⟨b, o, s⟩)) a) a
/-- Values are reckoned out before they are put down. -/
noncomputable def forced : Value → (Value → M (Trie Value)) → M (Trie Value) := @Value.rec (fun _ => (Value → M (Trie Value)) → M (Trie Value)) (fun _ => Unit) (fun _ => Unit) (fun b k => Bool.rec (k (.bool false)) (k (.bool true)) b) (fun kd n k => Int.rec (fun m => forceN m fun m => k (.int kd (.ofNat m))) (fun m => forceN m fun m => k (.int kd (.negSucc m))) n) (fun x0 x1 k => k (.float x0 x1)) (fun x0 x1 x2 k => k (.complex x0 x1 x2)) (fun x0 k => k (.string x0)) (fun a k => forceA a fun a => k (.pointer a)) (fun a n c k => forceA a fun a => forceN n fun n => forceN c fun c => k (.slice a n c)) (fun x0 k => k (.map x0)) (fun x0 k => k (.chan x0)) (fun x0 x1 x2 _ _ k => k (.func x0 x1 x2)) (fun k => k .nilFunc) (fun x0 x1 _ k => k (.iface x0 x1)) (fun k => k .nilIface) (fun x0 _ k => k (.agg x0)) (fun x0 _ k => k (.tuple x0)) (fun _ _ => ()) () (fun _ _ _ _ => ())

/-! ### Operations -/
abbrev CL := Nat → List Value → M Value
abbrev Opn := Trie Value → CL → M Value
noncomputable def oMv (x : Operand) : Opn := fun T _ => evO T x .ret
noncomputable def oPick (c a b : Operand) : Opn := fun T _ => evO T c fun t => onBool t .fail fun t => Bool.rec (evO T b .ret) (evO T a .ret) t
noncomputable def newRow (elem : TypeId) (cs : List Value) : M Value := .new ⟨elem, cs, false⟩ fun n => .ret (.pointer (some ⟨n, 0, none⟩))
noncomputable def oAlloc (elem : TypeId) (z : List Value) : Opn := fun _ _ => newRow elem z
noncomputable def oBox (elem : TypeId) (x : Operand) : Opn := fun T _ => evO T x fun v => .iff (List.rec false (fun _ _ _ => true) (cellsOf v)) (newRow elem (cellsOf v))
noncomputable def oBuild (z : List Value) (parts : List (Nat × Nat × Operand)) : Opn := fun T _ =>
  fillK .fail (mapK (partF (evalO T)) parts) z fun cs => .ret (.agg ⟨cs⟩)
noncomputable def loadM (b o n : Nat) (agg : Bool) : M Value := .read b fun k => cut o n k.cells .fail fun cs => valOf agg cs .fail .ret
noncomputable def oLoad (n : Nat) (agg : Bool) (a : Operand) : Opn := fun T _ => evO T a fun v => onPtr v .fail fun b o => loadM b o n agg
noncomputable def storeM {α : Type} (b o : Nat) (vs : List Value) (m : M α) : M α :=
  .log b true (.read0 b fun x => overAt o vs .fail x.cells fun cs => .put0 b (some ⟨x.elem, cs, x.opn⟩) m)
noncomputable def oStore (n : Nat) (a x : Operand) : Opn := fun T _ => evO T a fun v => onPtr v .fail fun b o => evO T x fun u => .iff (lenIs n (cellsOf u)) (storeM b o (cellsOf u) (.ret undef))
noncomputable def oChk (x : Operand) : Opn := fun T _ => evO T x fun v => onPtrO v (onFunc v .fail fun f a b => onFn f .fail fun f => .ret (.func (.func f) a b)) fun a => Option.rec .fail (fun a => .ret (.pointer (some a))) a
noncomputable def oBin (op : BinOp) (x y : Operand) : Opn := fun T _ => evO T x fun u => onInt u .fail fun k a => evO T y fun v => onInt v .fail fun j b => .iff (kindsK op k j) (binK op k a b .fail .ret)
noncomputable def oBeq (neg : Bool) (x y : Operand) : Opn := fun T _ => evO T x fun u => onBool u .fail fun a => evO T y fun v => onBool v .fail fun b => .ret (.bool (xor neg (a == b)))
noncomputable def oNilP (neg : Bool) (x : Operand) : Opn := fun T _ => evO T x fun u => onPtrO u .fail fun a => .ret (.bool (xor neg (isNone a)))
noncomputable def oNilS (neg : Bool) (x : Operand) : Opn := fun T _ => evO T x fun u => onSlice u .fail fun a _ _ => .ret (.bool (xor neg (isNone a)))
noncomputable def oNot (x : Operand) : Opn := fun T _ => evO T x fun u => onBool u .fail fun b => .ret (.bool (notK b))
noncomputable def oConv (k : IntKind) (x : Operand) : Opn := fun T _ => evO T x fun u => onInt u .fail fun _ n => .ret (.int k (wrapK k n))
noncomputable def oFld (off : Nat) (x : Operand) : Opn := fun T _ => evO T x fun u => onPtr u .fail fun b o => .ret (.pointer (some ⟨b, Nat.add o off, none⟩))
noncomputable def oPart (off size : Nat) (agg : Bool) (x : Operand) : Opn := fun T _ => evO T x fun u => onAgg u .fail fun cs => cut off size (toL cs) .fail fun r => valOf agg r .fail .ret
noncomputable def oIdx (size : Nat) (x i : Operand) : Opn := fun T _ => evO T x fun u => onSlice u .fail fun a len _ => onAddr a .fail fun b o => evO T i fun v => onNat v .fail fun i =>
  .iff (Nat.blt i len) (.ret (.pointer (some ⟨b, Nat.add o (Nat.mul i size), none⟩)))
noncomputable def oExt (i : Nat) (x : Operand) : Opn := fun T _ => evO T x fun u => onTuple u .fail fun vs => nth .fail .ret i (toL vs)
noncomputable def oLen (x : Operand) : Opn := fun T _ => evO T x fun u => onSlice u .fail fun _ n _ => .ret (.int .i64 (.ofNat n))
noncomputable def oCall (f : Operand) (args : List Operand) : Opn := fun T cl => evO T f fun u => onFunc u .fail fun f a b => onFn f .fail fun g => evL T args fun vs => cl g (appK (toL a) (appK vs (toL b)))
/-- Others are done as they are. -/
noncomputable def rest (op : Ev.Opn) : Opn := fun T _ => up (op (evalO T) fun _ _ => .fail)
noncomputable def opC : DOp → Opn := @DOp.rec (fun _ => Opn) oMv oPick oAlloc oBox oBuild (fun a b c d => rest (oBslice a b c d)) oLoad oStore oChk oBin oBeq oNilP oNilS oNot oConv (fun a b c => rest (oMkFn a b c))
  (fun a b c d e f => rest (oMkSlice a b c d e f)) (fun a b c d e f => rest (oSlice a b c d e f)) oFld oPart oIdx oExt oLen (fun a => rest (oCap a)) (fun a b => rest (oLeast a b)) (fun a b => rest (oMost a b))
  (fun a b c d e => rest (oAppend a b c d e)) (fun a b c => rest (oCopy a b c)) oCall (fun a b c => rest (oEq2 a b c)) (rest oBad)
noncomputable def putT (T : Trie Value) (d : Option Nat) (v : Value) : M (Trie Value) :=
  Option.rec (.ret T) (fun d => forced v fun v => T.ins .fail (some v) 20 d .ret) d
noncomputable def evVal (cl : CL) (T : Trie Value) (o : DOper) : M Value := Bool.rec (.ret undef) (opC o.op T cl) (wantedT T o.guard)
/-- A value that is moved was reckoned out before. -/
noncomputable def isMv : DOp → Bool := @DOp.rec (fun _ => Bool) (fun _ => true) (fun _ _ _ => false) (fun _ _ => false) (fun _ _ => false) (fun _ _ => false) (fun _ _ _ _ => false) (fun _ _ _ => false) (fun _ _ _ => false) (fun _ => false) (fun _ _ _ => false) (fun _ _ _ => false) (fun _ _ => false) (fun _ _ => false) (fun _ => false) (fun _ _ => false) (fun _ _ _ => false) (fun _ _ _ _ _ _ => false) (fun _ _ _ _ _ _ => false) (fun _ _ => false) (fun _ _ _ _ => false) (fun _ _ _ => false) (fun _ _ => false) (fun _ => false) (fun _ => false) (fun _ _ => false) (fun _ _ => false) (fun _ _ _ _ _ => false) (fun _ _ _ => false) (fun _ _ => false) (fun _ _ _ => false) false
noncomputable def putR (T : Trie Value) (d : Option Nat) (v : Value) : M (Trie Value) := Option.rec (.ret T) (fun d => T.ins .fail (some v) 20 d .ret) d
noncomputable def evOper (cl : CL) (T : Trie Value) (o : DOper) : M (Trie Value) := .bind (evVal cl T o) (Bool.rec (putT T o.dst) (putR T o.dst) (isMv o.op))
noncomputable def evSeq (cl : CL) (ops : List DOper) : Trie Value → M (Trie Value) := List.rec (fun T => .ret T) (fun o _ ih T => .bind (evOper cl T o) ih) ops
noncomputable def logged {α : Type} (m : M α) : M (α × Did) := fun g c H l k => m true c H [] fun x c1 H1 d => k (x, ⟨c, c1, d⟩) c1 H1 (Bool.rec l (appK d l) g)
noncomputable def evLogs (cl : CL) (ops : List DOper) : Trie Value → List Did → M (Trie Value × List Did) :=
  List.rec (fun T ds => .ret (T, ds)) (fun o _ ih T ds => .bind (logged (evOper cl T o)) fun p => Prod.rec (fun T d => ih T (d :: ds)) p) ops
noncomputable def evDraw (cl : CL) (ops : List DOper) (pairs : List (Nat × Nat)) (T : Trie Value) : M (Trie Value) :=
  .bind (evLogs cl ops T []) fun p => Prod.rec (fun T ds => .iff (pairsOk ds pairs) (.ret T)) p
abbrev EC := CL → Trie Value → M (IExit × Trie Value)
noncomputable def cSkip : EC := fun _ T => .ret (.normal, T)
noncomputable def cSeqR (ops : List DOper) : EC := fun cl T => .bind (evSeq cl ops T) fun T => .ret (.normal, T)
noncomputable def cDraw (ops : List DOper) (pairs : List (Nat × Nat)) : EC := fun cl T => .bind (evDraw cl ops pairs T) fun T => .ret (.normal, T)
noncomputable def cSeq (a b : EC) : EC := fun cl T => .bind (a cl T) fun r => Prod.rec (fun x T => onExit x (b cl T) (fun i => .ret (.exit i, T)) (.ret (.ret, T))) r
noncomputable def cCond (c : Operand) (x y : EC) : EC := fun cl T => evO T c fun v => Ev.onBool v .fail fun t => Bool.rec (y cl T) (x cl T) t
noncomputable def cBlock (id : Nat) (b : EC) : EC := fun cl T => .bind (b cl T) fun r => Prod.rec (fun x T => onExit x (.ret (.normal, T)) (fun i => .ret (Bool.rec (.exit i, T) (.normal, T) (Nat.beq i id))) (.ret (.ret, T))) r
noncomputable def loopN (b : Trie Value → M (IExit × Trie Value)) (n : Nat) : Trie Value → M (IExit × Trie Value) :=
  Nat.rec (fun _ => .fail) (fun _ ih T => .bind (b T) fun r => Prod.rec (fun x T => onExit x (ih T) (fun i => .ret (.exit i, T)) (.ret (.ret, T))) r) n
noncomputable def cLoop (b : EC) : EC := fun cl T => loopN (b cl) rounds T
noncomputable def cExit (id : Nat) : EC := fun _ T => .ret (.exit id, T)
noncomputable def cRet : EC := fun _ T => .ret (.ret, T)
noncomputable def codeC : DCode → EC := @DCode.rec (fun _ => EC) cSkip cSeqR cDraw (fun _ _ a b => cSeq a b) (fun c _ _ x y => cCond c x y) (fun id _ b => cBlock id b) (fun _ b => cLoop b) cExit cRet
noncomputable def evRes (T : Trie Value) (rs : List RVar) : (List Value → M Value) → M Value :=
  List.rec (fun k => k []) (fun r _ ih k => RVar.rec (fun t => evO T (.tmp t) fun v => ih fun vs => k (v :: vs)) (fun a n agg => evO T (.tmp a) fun v => onPtr v .fail fun b o => .bind (loadM b o n agg) fun v => ih fun vs => k (v :: vs)) r) rs
noncomputable def argsT (vs : List Value) : Nat → Trie Value → (Trie Value → M Value) → M Value :=
  List.rec (fun _ T k => k T) (fun v _ ih n T k => T.ins .fail (some v) 20 n fun T => ih (Nat.succ n) T k) vs
noncomputable def enterF (F : Trie DFunc) (cl : CL) (f : Nat) (args : List Value) : M Value :=
  M.opt (F.get f) fun fn => argsT args 0 .leaf fun T => .bind (codeC fn.body cl T) fun r => Prod.rec (fun x T => onExit x (evRes T fn.results fun vs => .ret (packV vs)) (fun _ => .fail) (evRes T fn.results fun vs => .ret (packV vs))) r
noncomputable def knownC (ks : List (List Value × Value)) (args : List Value) (m : M Value) : M Value :=
  List.rec m (fun k _ ih => Prod.rec (fun a v => Bool.rec ih (M.ret v) (eqL a args)) k) ks
noncomputable def evC (F : Trie DFunc) (K : Nat → List (List Value × Value)) (d : Nat) : CL :=
  Nat.rec (fun _ _ => .fail) (fun _ ih f args => knownC (K f) args (enterF F ih f args)) d
end C
end Go.Proofs.YtedipingocmmdaaGreat.Ev

