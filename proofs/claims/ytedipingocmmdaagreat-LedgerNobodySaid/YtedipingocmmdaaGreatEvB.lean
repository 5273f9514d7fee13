/- An evaluator of calls: a function's code brought into its form. -/
import Derived.Test.YtedipingocmmdaaGreatEvA
namespace Go.Proofs.YtedipingocmmdaaGreat.Ev
open Go

def listOf : Value → List Value
  | .agg cs => cs.toList
  | v => [v]
def flatB : Value → Bool
  | .bool _ | .int _ _ | .float _ _ | .complex _ _ _ | .string _ | .pointer none | .slice none _ _ | .map none | .chan none | .nilFunc | .nilIface => true
  | _ => false
def zeroOf (P : Program) (t : TypeId) : Option (List Value) :=
  match P.info? t with
  | some i => (match i.zero with | some z => if (listOf z).all flatB then some (listOf z) else none | none => none)
  | none => none
def sizeT (P : Program) (t : TypeId) : Option Nat := (P.info? t).map (·.size)
def aggT (P : Program) (t : TypeId) : Option Bool := (P.underlying t).map fun | .struct _ | .array _ _ => true | _ => false
def sliceT (P : Program) (t : TypeId) : Option TypeId :=
  match P.underlying t with
  | some (.slice e) => some e
  | _ => none
def isNilP : Operand → Bool
  | .const (.pointer none) => true
  | _ => false
def isNilS : Operand → Bool
  | .const (.slice none _ _) => true
  | _ => false
def plainO : Operand → Bool
  | .global _ => false
  | .const v => flatB v
  | _ => true
def mapO {α β : Type} (f : α → Option β) : List α → Option (List β)
  | [] => some []
  | x :: r => match f x, mapO f r with
    | some y, some ys => some (y :: ys)
    | _, _ => none
/-- The parts of a struct or an array: where each lies, how many cells it has. -/
def partOf (place : Nat → Option (Nat × Nat)) (p : Nat × Operand) : Option (Nat × Nat × Operand) :=
  match place p.1 with
  | some q => if q.2 = 0 then none else some (q.1, q.2, p.2)
  | none => none
def partsOf (place : Nat → Option (Nat × Nat)) (parts : List (Nat × Operand)) : Option (List (Nat × Nat × Operand)) := mapO (partOf place) parts
def fieldPl (P : Program) (f : Field) : Option (Nat × Nat) := (sizeT P f.type).map fun s => (f.offset, s)
noncomputable def nilP (neg : Bool) (x y : Operand) : Option Opn := if isNilP y then some (oNilP neg x) else if isNilP x then some (oNilP neg y) else none
noncomputable def nilS (neg : Bool) (x y : Operand) : Option Opn := if isNilS y then some (oNilS neg x) else if isNilS x then some (oNilS neg y) else none

section
variable (P : Program)
noncomputable def cAlloc (t : TypeId) : Option Opn := (zeroOf P t).map fun z => oAlloc t z
noncomputable def cBuild (t : TypeId) (parts : List (Nat × Operand)) : Option Opn :=
  match P.underlying t, zeroOf P t with
  | some (.struct fields), some z => (mapO (fieldPl P) fields.toList).bind fun pl => (partsOf (pl[·]?) parts).map fun ps => oBuild z ps
  | some (.array _ elem), some z => (sizeT P elem).bind fun s => (partsOf (fun i => some (i * s, s)) parts).map fun ps => oBuild z ps
  | _, _ => none
noncomputable def cBslice (t : TypeId) (len : Nat) (parts : List (Nat × Operand)) : Option Opn :=
  match sliceT P t with
  | some e => (match sizeT P e, zeroOf P e with
    | some s, some z => if s = 0 || z.length != s || len * s > 65536 then none else (partsOf (fun i => some (i * s, s)) parts).map fun ps => oBslice e len z ps
    | _, _ => none)
  | none => none
noncomputable def cLoad (t : TypeId) (a : Operand) : Option Opn :=
  match sizeT P t, aggT P t with
  | some n, some g => if g || n == 1 then some (oLoad n g a) else none
  | _, _ => none
noncomputable def cStore (t : TypeId) (a x : Operand) : Option Opn :=
  match sizeT P t with
  | some n => if n = 0 then none else some (oStore n a x)
  | none => none
def intT (t : TypeId) : Bool := match P.underlying t with
  | some (.int _) => true
  | _ => false
/-- A struct of two numbers. -/
def pairT (t : TypeId) : Bool :=
  (match P.underlying t with
  | some (.struct fs) => (match fs.toList with
    | [f0, f1] => f0.offset == 0 && (f1.offset == 1 && (decide (f0.name ≠ "_") && (decide (f1.name ≠ "_") && (intT P f0.type && intT P f1.type))))
    | _ => false)
  | _ => false) && (!P.stoodInHeld t && !P.eqGuardType P.depth t)
noncomputable def cBin (op : BinOp) (t : TypeId) (x y : Operand) : Option Opn :=
  match P.underlying t with
  | some (.int _) => some (oBin op x y)
  | some .bool => (match op with | .eql => some (oBeq false x y) | .neq => some (oBeq true x y) | _ => none)
  | some (.pointer _) => (match op with | .eql => nilP false x y | .neq => nilP true x y | _ => none)
  | some (.slice _) => (match op with | .eql => nilS false x y | .neq => nilS true x y | _ => none)
  | some (.struct _) => if pairT P t then (match op with | .eql => some (oEq2 false x y) | .neq => some (oEq2 true x y) | _ => none) else none
  | _ => none
noncomputable def cConv (src dst : TypeId) (x : Operand) : Option Opn :=
  match P.underlying src, P.underlying dst with
  | some (.int _), some (.int k) => some (oConv k x)
  | _, _ => none
noncomputable def cMkSlice (t : TypeId) (l c : Operand) : Option Opn :=
  match sliceT P t with
  | some e => (match P.info? e, zeroOf P e with
    | some i, some z => if z.length == i.size then some (oMkSlice e i.size i.bytes z l c) else none
    | _, _ => none)
  | none => none
noncomputable def cSlice (t : TypeId) (x : Operand) (lo hi mx : Option Operand) : Option Opn :=
  match sliceT P t with
  | some e => if mx.isSome && hi.isNone then none else (sizeT P e).map fun s => oSlice e s x lo hi mx
  | none => none
noncomputable def cFld (t : TypeId) (x : Operand) (f : Nat) : Option Opn :=
  match P.underlying t with
  | some (.struct fields) => (match fields.toList[f]? with
    | some f => (sizeT P f.type).bind fun s => if s = 0 then none else some (oFld f.offset x)
    | none => none)
  | _ => none
noncomputable def cPart (t : TypeId) (x : Operand) (f : Nat) : Option Opn :=
  match P.underlying t with
  | some (.struct fields) => (match fields.toList[f]? with
    | some f => (match sizeT P f.type, aggT P f.type with
      | some s, some g => if g || s == 1 then some (oPart f.offset s g x) else none
      | _, _ => none)
    | none => none)
  | _ => none
noncomputable def cIdx (t : TypeId) (x i : Operand) : Option Opn := (sliceT P t).bind fun e => (sizeT P e).map fun s => oIdx s x i
noncomputable def cLen : List Operand → List TypeId → Option Opn
  | [x], [t] => (sliceT P t).map fun _ => oLen x
  | _, _ => none
noncomputable def cCap : List Operand → List TypeId → Option Opn
  | [x], [t] => (sliceT P t).map fun _ => oCap x
  | _, _ => none
noncomputable def cAppend : List Operand → List TypeId → Option Opn
  | [x, y], [t, u] => (match sliceT P t, sliceT P u with
    | some e, some _ => (match P.info? e, zeroOf P e with
      | some i, some z => if z.length == i.size then some (oAppend e i.size i.bytes x y) else none
      | _, _ => none)
    | _, _ => none)
  | _, _ => none
noncomputable def cCopy : List Operand → List TypeId → Option Opn
  | [x, y], [t, u] => (match sliceT P t, sliceT P u with
    | some e, some _ => (sizeT P e).map fun s => oCopy s x y
    | _, _ => none)
  | _, _ => none
noncomputable def cMin : List Operand → Option Opn
  | [x, y] => some (oLeast x y)
  | _ => none
noncomputable def cMax : List Operand → Option Opn
  | [x, y] => some (oMost x y)
  | _ => none
noncomputable def cCall (c : Call) : Option Opn :=
  match c.callee with
  | .value f => some (oCall f c.args.toList)
  | .builtin .len => cLen P c.args.toList c.argTypes.toList
  | .builtin .cap => cCap P c.args.toList c.argTypes.toList
  | .builtin .min => cMin c.args.toList
  | .builtin .max => cMax c.args.toList
  | .builtin .append => cAppend P c.args.toList c.argTypes.toList
  | .builtin .copy => cCopy P c.args.toList c.argTypes.toList
  | _ => none
noncomputable def compileOp (o : Oper) : Option Opn :=
  match o.op with
  | .move x | .assign x => some (oMv x)
  | .pick c a b => some (oPick c a b)
  | .alloc t => cAlloc P t
  | .box t x => some (oBox t x)
  | .build t parts => cBuild P t parts.toList
  | .buildSlice t len parts => cBslice P t len parts.toList
  | .load t a => cLoad P t a
  | .store t a x => cStore P t a x
  | .nilCheck x => some (oChk x)
  | .binOp op t x y _ => cBin P op t x y
  | .unOp .not _ x => some (oNot x)
  | .convert src dst x => cConv P src dst x
  | .makeFunc (.func f) a b => some (oMkFn f a.toList b.toList)
  | .makeSlice t l c => cMkSlice P t l c
  | .slice t x lo hi mx => cSlice P t x lo hi mx
  | .fieldAddr t x f => cFld P t x f
  | .field t x f => cPart P t x f
  | .indexAddr t x i => cIdx P t x i
  | .extract x i => some (oExt i x)
  | .call c => cCall P c
  | _ => none
end

/-- Does an operation make rows (false), or touch memory (true)? -/
def loud : Op → Option Bool
  | .alloc _ | .box .. | .buildSlice .. | .makeSlice .. => some false
  | .load .. | .store .. | .slice .. | .call { callee := .value _, .. } | .call { callee := .builtin .append, .. } | .call { callee := .builtin .copy, .. } => some true
  | _ => none
def guardOf (ops : Array Oper) (o : Oper) : Option (Option (Nat × Bool)) :=
  match o.guard with
  | none => some none
  | some (j, b) => (match (ops[j]?).bind (·.dst) with | some d => some (some (d, b)) | none => none)
def dstOk (n : Nat) : Option Tmp → Bool
  | none => true
  | some d => Nat.blt d n
noncomputable def compileOper (P : Program) (n : Nat) (ops : Array Oper) (o : Oper) : Option SOper :=
  match guardOf ops o with
  | some g => if o.op.operands.toList.all plainO && dstOk n o.dst then
      (match compileOp P o with
      | some op => some ⟨o.dst, g, op⟩
      | none => some ⟨o.dst, g, oBad⟩)
    else none
  | none => none
def ordB (b : Array Nat) (i j : Nat) : Bool := (b.getD j 0).testBit i
/-- Each operation waits only for such as stand ahead of it; two that are in no order don't meet at a temporary. -/
def drawOk (ops : Array Oper) : Bool :=
  (List.range ops.size).all (fun j => (ops.getD j default).after.toList.all fun e => !Region.binds .any e || decide (e.on < j)) &&
  (List.range ops.size).all (fun j => (List.range j).all fun i => ordB (Region.before ops) i j || Oper.apart ops (ops.getD i default) (ops.getD j default))
def pairOk (ops : Array Oper) (i j : Nat) : Bool :=
  match loud (ops.getD i default).op, loud (ops.getD j default).op with
  | some a, some b => a || b
  | _, _ => false
/-- The pairs in no order, of which one touches memory: counted from the last operation. -/
def pairsOf (ops : Array Oper) : List (Nat × Nat) :=
  (List.range ops.size).flatMap fun j => (List.range j).filterMap fun i =>
    if !ordB (Region.before ops) i j && pairOk ops i j then some (ops.size - 1 - i, ops.size - 1 - j) else none
noncomputable def compileRegion (P : Program) (n : Nat) (ops : Array Oper) (draw : Bool) : Option EC :=
  match mapO (compileOper P n ops) ops.toList with
  | some l => if draw then (if drawOk ops then (match pairsOf ops with | [] => some (cSeqR l) | p :: ps => some (cDraw l (p :: ps))) else none) else some (cSeqR l)
  | none => none
noncomputable def compileC (P : Program) (n : Nat) : Code → Option EC
  | .skip => some cSkip
  | .region _ ops draw => compileRegion P n ops draw
  | .seq a b => (match compileC P n a, compileC P n b with | some x, some y => some (cSeq x y) | _, _ => none)
  | .cond c a b => (match plainO c, compileC P n a, compileC P n b with | true, some x, some y => some (cCond c x y) | _, _, _ => none)
  | .block id a => (match compileC P n a with | some x => some (cBlock id x) | none => none)
  | .loop a => (match compileC P n a with | some x => some (cLoop x) | none => none)
  | .exit id => some (cExit id)
  | .ret => some cRet
  | _ => none
def compileR (P : Program) : ResultVar → Option RVar
  | .tmp t => some (.tmp t)
  | .cell a t => (match sizeT P t, aggT P t with
    | some n, some g => if g || n == 1 then some (.cell a n g) else none
    | _, _ => none)
noncomputable def compileF (P : Program) (fn : Func) : Option EFunc :=
  match fn.body with
  | some c => (match compileC P fn.ntmps c, mapO (compileR P) fn.results.toList with
    | some b, some r => some ⟨fn.ntmps, b, r⟩
    | _, _ => none)
  | none => none
end Go.Proofs.YtedipingocmmdaaGreat.Ev

