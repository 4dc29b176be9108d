/-
  A logical run of Go code: blocks are numbered by the run itself, slices grow into new blocks, library functions come in by what they compute. Definitions.
-/
import Derived.Test.YtgnefbngkhjfcaaDoorKit
import Derived.Laws.Tables
import Derived.Laws.CopyRow
import Derived.Deep.Quiet
import Derived.StillTail
set_option linter.unusedSimpArgs false
set_option linter.unusedVariables false
namespace Go.Lg

/-- a block as the logical run sees it -/
structure LB where
  cells : List Value
  elem : TypeId
  rw : Bool
/-- the logical heap -/
structure LH where
  n : Nat
  get : Nat → Option LB
  hole : Nat → Prop
  /-- the world in which all began, and how many of its first blocks (the package's variables) stay as they were -/
  base : World
  ng : Nat
def LH.empty (w : World) (g : Nat) : LH := ⟨0, fun _ => none, fun _ => False, w, g⟩
/-- the numbers that a value may mention -/
def LH.D (H : LH) (l : Nat) : Prop := l < H.n ∧ ¬ H.hole l
def LH.new (H : LH) (b : LB) : LH := ⟨H.n + 1, fun l => if l = H.n then some b else H.get l, H.hole, H.base, H.ng⟩
def LH.set (H : LH) (l : Nat) (b : LB) : LH := ⟨H.n, fun k => if k = l then some b else H.get k, H.hole, H.base, H.ng⟩
def LH.kill (H : LH) (l : Nat) : LH := ⟨H.n, fun k => if k = l then none else H.get k, H.hole, H.base, H.ng⟩
/-- all blocks to be read only -/
def LH.ro (H : LH) : LH := ⟨H.n, fun l => (H.get l).map fun b => { b with rw := false }, H.hole, H.base, H.ng⟩
def LH.le (H H' : LH) : Prop := H.n ≤ H'.n ∧ ∀ l, l < H.n → H'.get l = H.get l

/-- a value of which nothing is known -/
def unk : Value := .chan (some 0)
/-- one cell that leads nowhere -/
def atomB : Value → Bool
  | .bool _ | .int _ _ | .float _ _ | .complex _ _ _ | .string _ | .nilFunc | .nilIface => true
  | .pointer none => true
  | .slice none n c => n == 0 && c == 0
  | .map none => true
  | .func (.func _) first captured => first.size == 0 && captured.size == 0
  | _ => false
def flat1B : Value → Bool
  | .agg cs => cs.toList.all atomB
  | v => atomB v
def flatB : Value → Bool
  | .tuple vs => vs.toList.all flat1B
  | v => flat1B v
/-- known to be of one cell -/
def cellB : Value → Bool
  | .agg _ | .tuple _ | .chan _ => false
  | _ => true
def knownB : Value → Bool
  | .chan _ => false
  | _ => true

abbrev Fr := Nat → Value
def upd (fr : Fr) (d : Nat) (v : Value) : Fr := fun t => if t = d then v else fr t
def ev (fr : Fr) : Operand → Value
  | .tmp t => fr t
  | .const v => if flatB v then v else unk
  | .global _ => unk
  | .func f => .func (.func f) #[] #[]

/-- what a computation yields that asks nothing of memory -/
def pureVal {α : Type} (P : Program) : Sem α → Option α
  | .pure a => some a
  | .program k => pureVal P (k P)
  | .mark _ k => pureVal P k
  | _ => none

def pureFlat (P : Program) (s : Sem Value) : Option Value :=
  match pureVal P s with
  | some v => if flatB v then some v else none
  | none => none

abbrev Callee := FuncId → List Value → LH → Option (Value × LH)

def sz (P : Program) (t : TypeId) : Option Nat := (P.info? t).map (·.size)
def zr (P : Program) (t : TypeId) : Option Value := (P.info? t).bind (·.zero)
def byts (P : Program) (t : TypeId) : Option Nat := (P.info? t).map (·.bytes)
def aggD : TypeDesc → Bool
  | .struct _ | .array _ _ => true
  | _ => false
def aggB (P : Program) (t : TypeId) : Option Bool := (P.underlying t).map aggD
def lcells (b : LB) (o n : Nat) : Option (List Value) := if o + n ≤ b.cells.length then some ((b.cells.drop o).take n) else none
def lload (P : Program) (t : TypeId) (l o : Nat) (H : LH) : Option Value :=
  match H.get l with
  | some b =>
    match aggB P t, sz P t with
    | some true, some s => (lcells b o s).map fun cs => .agg cs.toArray
    | some false, _ => b.cells[o]?
    | _, _ => none
  | none => none
def splice (cs : List Value) (o : Nat) (vs : List Value) : List Value := cs.take o ++ vs ++ cs.drop (o + vs.length)
def lstore (P : Program) (t : TypeId) (l o : Nat) (v : Value) (H : LH) : Option LH :=
  match H.get l, sz P t with
  | some b, some s =>
    if b.rw && v.cells.toList.length == s && v.cells.toList.all cellB && decide (o + v.cells.toList.length ≤ b.cells.length) then some (H.set l { b with cells := splice b.cells o v.cells.toList })
    else none
  | _, _ => none

/-- operations on two values -/
def lbin (P : Program) (op : BinOp) (t : TypeId) (x y : Value) : Option Value :=
  match x, y with
  | .pointer none, .pointer b => match P.underlying t, op with
    | some (.pointer _), .eql => some (.bool b.isNone)
    | some (.pointer _), .neq => some (.bool (!b.isNone))
    | _, _ => none
  | .pointer a, .pointer none => match P.underlying t, op with
    | some (.pointer _), .eql => some (.bool a.isNone)
    | some (.pointer _), .neq => some (.bool (!a.isNone))
    | _, _ => none
  | .slice none _ _, .slice b _ _ => match P.underlying t, op with
    | some (.slice _), .eql => some (.bool b.isNone)
    | some (.slice _), .neq => some (.bool (!b.isNone))
    | _, _ => none
  | .slice a _ _, .slice none _ _ => match P.underlying t, op with
    | some (.slice _), .eql => some (.bool a.isNone)
    | some (.slice _), .neq => some (.bool (!a.isNone))
    | _, _ => none
  | .nilIface, _ => none
  | x, y => if flatB x && flatB y then pureFlat P (do eqGuard op t (.tmp 0) (.tmp 0) x y; binOp op t x y) else none

/-- a bound of a slice expression -/
def lbound (fr : Fr) (dflt : Nat) : Option Operand → Option Nat
  | none => some dflt
  | some x => match ev fr x with
    | .int _ i => if 0 ≤ i then some i.toNat else none
    | _ => none
def lslice (P : Program) (t : TypeId) (x : Value) (fr : Fr) (lo hi : Option Operand) : Option Value :=
  match P.underlying t, x with
  | some .string, .string s =>
    match lbound fr 0 lo, lbound fr s.size hi with
    | some a, some b => if a ≤ b ∧ b ≤ s.size then some (.string (s.extract a b)) else none
    | _, _ => none
  | some (.slice e), .slice a n c =>
    match lbound fr 0 lo, lbound fr n hi, sz P e with
    | some i, some j, some s => if i ≤ j ∧ j ≤ n then
        match a with
        | some ⟨l, o, none⟩ => some (.slice (some ⟨l, o + i * s, none⟩) (j - i) (c - i))
        | none => some (.slice none 0 0)
        | _ => none
      else none
    | _, _, _ => none
  | _, _ => none

def lbuild (P : Program) (t : TypeId) (parts : List (Nat × Value)) : Option Value :=
  if parts.all (fun p => knownB p.2) && (zr P t).any flatB then
    match P.underlying t with
    | some (.struct _) => (P.built t parts).map .agg
    | _ => none
  else none
def lbuildSlice (P : Program) (t : TypeId) (len : Nat) (parts : List (Nat × Value)) (H : LH) : Option (Value × LH) :=
  match P.underlying t with
  | some (.slice e) =>
    match sz P e, zr P e with
    | some s, some z =>
      if flatB z && decide (0 < s) && decide (len * s ≤ 65536) && z.cells.size == s && parts.all (fun p => knownB p.2) then
        match Instr.fill (fun j => some (j * s, s)) ((Array.range (len * s)).map fun j => z.cells[j % z.cells.size]!) parts with
        | some cs => if cs.size = len * s then some (.slice (some ⟨H.n, 0, none⟩) len len, H.new ⟨cs.toList, e, true⟩) else none
        | none => none
      else none
    | _, _ => none
  | _ => none

/-- the most elements that a slice may come to -/
def maxElems : Nat := 1048576
def lsrc (s : Nat) (y : Value) (H : LH) : Option (Nat × List Value) :=
  match y with
  | .slice none 0 0 => some (0, [])
  | .slice (some ⟨l, o, none⟩) m _ => match H.get l with
    | some b => (lcells b o (m * s)).map fun cs => (m, cs)
    | none => none
  | _ => none
/-- are elements of this type of a size that append takes? gives the size -/
def lesz (P : Program) (e : TypeId) : Option Nat :=
  match P.info? e with
  | some i => match i.zero with
    | some z => if z.cells.size = i.size ∧ 0 < i.size ∧ i.bytes ≤ 1048576 then some i.size else none
    | none => none
  | none => none
def lappend (P : Program) (t : TypeId) (x y : Value) (H : LH) : Option (Value × LH) :=
  match P.underlying t with
  | some (.slice e) =>
    match lesz P e with
    | some s =>
      match lsrc s y H with
      | some (m, new) =>
        if new.all cellB then
          match x with
          | .slice none 0 0 => if m = 0 then some (x, H) else if m ≤ maxElems then some (.slice (some ⟨H.n, 0, none⟩) m m, H.new ⟨new, e, true⟩) else none
          | .slice (some ⟨l, o, none⟩) n c =>
            match H.get l with
            | some b =>
              if b.rw = true ∧ b.elem = e ∧ o = 0 ∧ b.cells.length = c * s ∧ n ≤ c then
                if m = 0 then some (x, H)
                else if n + m ≤ c then some (.slice (some ⟨l, 0, none⟩) (n + m) c, H.set l { b with cells := splice b.cells (n * s) new })
                else if n = c ∧ n + m ≤ maxElems then some (.slice (some ⟨H.n, 0, none⟩) (n + m) (n + m), (H.kill l).new ⟨b.cells ++ new, e, true⟩)
                else none
              else none
            | none => none
          | _ => none
        else none
      | none => none
    | none => none
  | _ => none

def lbuiltin (P : Program) (b : Builtin) (argTypes : List TypeId) (args : List Value) (H : LH) : Option (Value × LH) :=
  match b, argTypes, args with
  | .len, [t], [x] => match P.underlying t, x with
    | some .string, .string s => some (.int .i64 s.size, H)
    | some (.slice _), .slice _ n _ => some (.int .i64 n, H)
    | _, _ => none
  | .append, [t, u], [x, y] => if t = u then lappend P t x y H else none
  | .min, _, [.int k x, .int _ y] => some (.int k (if y < x then y else x), H)
  | .max, _, [.int k x, .int _ y] => some (.int k (if x < y then y else x), H)
  | _, _, _ => none

def lcallee (P : Program) (T : Callee) (f : Value) (args : List Value) (H : LH) : Option (Value × LH) :=
  match f with
  | .func (.func g) first captured => if first.size = 0 then T g (args ++ captured.toList) H else none
  | _ => none

/-- bytes as a string -/
def lbyte : Value → Option UInt8
  | .int .u8 n => some (UInt8.ofNat n.toNat)
  | _ => none
def lbstr (P : Program) (src dst : TypeId) (x : Value) (H : LH) : Option Value :=
  match P.underlying src, P.underlying dst, x with
  | some (.slice e), some .string, .slice (some ⟨l, o, none⟩) n _ =>
    match P.underlying e with
    | some (.int .u8) => match H.get l with
      | some b => match lcells b o n with
        | some cs => (cs.mapM lbyte).map fun bs => .string ⟨bs.toArray⟩
        | none => none
      | none => none
    | _ => none
  | _, _, _ => none
/-- one operation: what it yields, and the heap behind it -/
def lop (P : Program) (T : Callee) (o : Oper) (fr : Fr) (H : LH) : Option (Value × LH) :=
  match o.op with
  | .move x | .assign x => some (ev fr x, H)
  | .pick c a b => match ev fr c with
    | .bool t => some (if t then ev fr a else ev fr b, H)
    | _ => none
  | .box e x => if knownB (ev fr x) && sz P e == some (ev fr x).cells.size then some (.pointer (some ⟨H.n, 0, none⟩), H.new ⟨(ev fr x).cells.toList, e, true⟩) else none
  | .alloc e => match zr P e with
    | some z => if flatB z && sz P e == some z.cells.size then some (.pointer (some ⟨H.n, 0, none⟩), H.new ⟨z.cells.toList, e, true⟩) else none
    | none => none
  | .load t a => match ev fr a with
    | .pointer (some ⟨l, off, none⟩) => (lload P t l off H).map fun v => (v, H)
    | _ => none
  | .store t a x => match ev fr a with
    | .pointer (some ⟨l, off, none⟩) => (lstore P t l off (ev fr x) H).map fun H' => (undef, H')
    | _ => none
  | .nilCheck x => match ev fr x with
    | .pointer (some a) => some (.pointer (some a), H)
    | .func (.func g) first captured => some (.func (.func g) first captured, H)
    | _ => none
  | .fieldAddr s x f => match ev fr x, P.underlying s with
    | .pointer (some ⟨l, off, none⟩), some (.struct fs) => match fs[f]? with
      | some fd => match sz P fd.type with
        | some s => if s = 0 then none else some (.pointer (some ⟨l, off + fd.offset, none⟩), H)
        | none => none
      | none => none
    | _, _ => none
  | .indexAddr t x i => match ev fr x, ev fr i, P.underlying t with
    | .slice (some ⟨l, off, none⟩) n _, .int _ k, some (.slice e) => match sz P e with
      | some s => if 0 ≤ k ∧ k < n then some (.pointer (some ⟨l, off + k.toNat * s, none⟩), H) else none
      | none => none
    | _, _, _ => none
  | .slice t x lo hi none => (lslice P t (ev fr x) fr lo hi).map fun v => (v, H)
  | .field t x f => match P.underlying t, ev fr x with
    | some (.struct fs), .agg cs => match fs[f]? with
      | some fd => match aggB P fd.type, sz P fd.type with
        | some true, some s => some (.agg (cs.extract fd.offset (fd.offset + s)), H)
        | some false, _ => (cs[fd.offset]?).map fun v => (v, H)
        | _, _ => none
      | none => none
    | _, _ => none
  | .extract x i => match ev fr x with
    | .tuple vs => (vs[i]?).map fun v => (v, H)
    | _ => none
  | .build t parts => (lbuild P t (parts.toList.map fun p => (p.1, ev fr p.2))).map fun v => (v, H)
  | .buildSlice t len parts => lbuildSlice P t len (parts.toList.map fun p => (p.1, ev fr p.2)) H
  | .makeFunc (.func g) first captured => if first.size = 0 then some (.func (.func g) #[] (captured.map (ev fr)), H) else none
  | .binOp op t x y _ => (lbin P op t (ev fr x) (ev fr y)).map fun v => (v, H)
  | .unOp op _ x => if flatB (ev fr x) then (pureFlat P (Op.unary op (ev fr x))).map fun v => (v, H) else none
  | .convert src dst x => if flatB (ev fr x) then (pureFlat P (convert src dst (ev fr x))).map fun v => (v, H) else (lbstr P src dst (ev fr x) H).map fun v => (v, H)
  | .index t x i => if flatB (ev fr x) && flatB (ev fr i) then (pureFlat P (Instr.index t (ev fr x) (ev fr i))).map fun v => (v, H) else none
  | .call c => match c.callee with
    | .value f => lcallee P T (ev fr f) (c.args.toList.map (ev fr)) H
    | .builtin b => lbuiltin P b c.argTypes.toList (c.args.toList.map (ev fr)) H
    | .invoke _ _ => none
  | _ => none

/-- is the operation carried out? -/
def lwant (ops : Array Oper) (fr : Fr) (o : Oper) : Option Bool :=
  match o.guard with
  | none => some true
  | some (j, want) => match (ops[j]?).bind (·.dst) with
    | none => some false
    | some d => match fr d with
      | .bool b => some (b == want)
      | v => if flatB v then some false else none
def lput (N : Nat) (fr : Fr) (d : Option Tmp) (v : Value) : Option Fr :=
  match d with
  | some d => if d < N then some (upd fr d v) else none
  | none => some fr
/-- operations, one behind the other -/
def lops (P : Program) (T : Callee) (N : Nat) (all : Array Oper) : List Oper → Fr → LH → Option (Fr × LH)
  | [], fr, H => some (fr, H)
  | o :: os, fr, H =>
    match lwant all fr o with
    | some true =>
      match lop P T o fr H with
      | some (v, H') => match lput N fr o.dst v with
        | some fr' => lops P T N all os fr' H'
        | none => none
      | none => none
    | some false => match lput N fr o.dst undef with
      | some fr' => lops P T N all os fr' H
      | none => none
    | none => none
/-- an operation that leaves memory as it is -/
def lquiet (P : Program) (T : Callee) (o : Oper) (fr : Fr) (H : LH) : Option Value :=
  match o.op with
  | .store _ _ _ | .box _ _ | .alloc _ | .buildSlice _ _ _ => none
  | .call c => match c.callee with
    | .value f => match lcallee P T (ev fr f) (c.args.toList.map (ev fr)) H.ro with
      | some (v, _) => if flatB v then some v else none
      | none => none
    | .builtin .append => none
    | .builtin b => (lbuiltin P b c.argTypes.toList (c.args.toList.map (ev fr)) H).map (·.1)
    | .invoke _ _ => none
  | _ => (lop P T o fr H).map (·.1)
def lquiets (P : Program) (T : Callee) (N : Nat) (all : Array Oper) (H : LH) : List Oper → Fr → Option Fr
  | [], fr => some fr
  | o :: os, fr =>
    match lwant all fr o with
    | some true =>
      match lquiet P T o fr H with
      | some v => match lput N fr o.dst v with
        | some fr' => lquiets P T N all H os fr'
        | none => none
      | none => none
    | some false => match lput N fr o.dst undef with
      | some fr' => lquiets P T N all H os fr'
      | none => none
    | none => none

/-- functions whose calls stand at the end of a region whose order is open -/
abbrev Loud := FuncId → Bool
/-- an operation with which what is carried out in order begins, in a region whose order is open -/
def loudOp (L : Loud) : Op → Bool
  | .store _ _ _ => true
  | .call c => match c.callee with
    | .builtin .append => true
    | .value (.func g) => L g
    | _ => false
  | _ => false
/-- an operation ahead of these: what it yields, and the heap behind it -/
def lmixop (P : Program) (T : Callee) (o : Oper) (fr : Fr) (H0 H : LH) : Option (Value × LH) :=
  match o.op with
  | .store _ _ _ => none
  | .call c => match c.callee with
    | .value f => if H.n == H0.n || (flatB (ev fr f) && (c.args.toList.map (ev fr)).all flatB) then (lquiet P T o fr H0).map fun v => (v, H) else none
    | .builtin .append => none
    | .builtin b => (lbuiltin P b c.argTypes.toList (c.args.toList.map (ev fr)) H).map fun r => (r.1, H)
    | .invoke _ _ => none
  | _ => lop P T o fr H
/-- a region whose order is open -/
def lmix (P : Program) (L : Loud) (T : Callee) (N : Nat) (all : Array Oper) (H0 : LH) : List Oper → Fr → LH → Option (Fr × LH)
  | [], fr, H => some (fr, H)
  | o :: os, fr, H =>
    if loudOp L o.op then lops P T N all (o :: os) fr H
    else match o.dst with
    | none => none
    | some d => if d < N then
        match lwant all fr o with
        | some true =>
          match lmixop P T o fr H0 H with
          | some (v, H') => lmix P L T N all H0 os (upd fr d v) H'
          | none => none
        | some false => lmix P L T N all H0 os (upd fr d undef) H
        | none => none
      else none
/-- how many operations stand ahead -/
def headN (L : Loud) : List Oper → Nat
  | [] => 0
  | o :: os => if loudOp L o.op then 0 else headN L os + 1
/-- may a region be carried out so? -/
def mixB (L : Loud) (ops : Array Oper) : Bool :=
  let n := headN L ops.toList
  ((List.range ops.size).all fun i => match ops[i]? with
    | some o => o.after.toList.all fun e => !Region.binds .any e || decide (e.on < i)
    | none => true) &&
  ((List.range n).all fun i => match ops[i]? with
    | some o => (Oper.looksAt ops o).all fun t => (List.range ops.size).all fun k => (ops[k]?).bind (·.dst) != some t || (decide (k < i) && Region.waitsFor .any ops i k)
    | none => true) &&
  ((List.range n).all fun i => (List.range n).all fun k => i == k || (ops[i]?).bind (·.dst) != (ops[k]?).bind (·.dst)) &&
  (decide (ops.size ≤ n) || (Region.sinkB .any ops n && Region.chainB .any ops n))

def lresult (P : Program) (fr : Fr) (H : LH) : ResultVar → Option Value
  | .tmp t => some (fr t)
  | .cell a t => match fr a with
    | .pointer (some ⟨l, off, none⟩) => lload P t l off H
    | _ => none
def lresults (P : Program) (fn : Func) (fr : Fr) (H : LH) : Option Value :=
  match fn.results.toList.mapM (lresult P fr H) with
  | some [v] => some v
  | some vs => some (.tuple vs.toArray)
  | none => none

/-- a run of code, item by item -/
def run (P : Program) (L : Loud) (T : Callee) (fn : Func) : Nat → List Item → Fr → LH → Option (Value × LH)
  | 0, _, _, _ => none
  | n + 1, [], fr, H => (lresults P fn fr H).map fun v => (v, H)
  | n + 1, .code .skip :: k, fr, H => run P L T fn n k fr H
  | n + 1, .code (.label _) :: k, fr, H => run P L T fn n k fr H
  | n + 1, .code (.seq a b) :: k, fr, H => run P L T fn n (.code a :: .code b :: k) fr H
  | n + 1, .code (.cond c x y) :: k, fr, H => match ev fr c with
    | .bool t => if t then run P L T fn n (.code x :: k) fr H else run P L T fn n (.code y :: k) fr H
    | _ => none
  | n + 1, .code (.block id c) :: k, fr, H => run P L T fn n (.code c :: .inBlock id :: k) fr H
  | n + 1, .code (.loop c) :: k, fr, H => run P L T fn n (.code c :: .inLoop c :: k) fr H
  | n + 1, .code (.exit id) :: k, fr, H => match exitTo id k with
    | some k' => run P L T fn n k' fr H
    | none => none
  | n + 1, .code .ret :: _, fr, H => (lresults P fn fr H).map fun v => (v, H)
  | n + 1, .code (.region _ ops false) :: k, fr, H => match lops P T fn.ntmps ops ops.toList fr H with
    | some (fr', H') => run P L T fn n k fr' H'
    | none => none
  | n + 1, .code (.region _ ops true) :: k, fr, H => match lmix P L T fn.ntmps ops H ops.toList fr H with
    | some (fr', H') => run P L T fn n k fr' H'
    | none => none
  | n + 1, .inBlock _ :: k, fr, H => run P L T fn n k fr H
  | n + 1, .inLoop c :: k, fr, H => run P L T fn n (.code c :: .inLoop c :: k) fr H
  | _ + 1, _, _, _ => none

/-- regions whose order is open are such that one order serves for all -/
def codeOk (L : Loud) : Code → Bool
  | .region _ ops true => mixB L ops
  | .seq a b => codeOk L a && codeOk L b
  | .cond _ a b => codeOk L a && codeOk L b
  | .block _ c => codeOk L c
  | .loop c => codeOk L c
  | .scope c => codeOk L c
  | _ => true
/-- library functions by what they compute; and the loud ones -/
structure Env where
  ext : FuncId → Option (List Value → LH → Option (Value × LH))
  loud : Loud
instance : CoeFun Env (fun _ => FuncId → Option (List Value → LH → Option (Value × LH))) := ⟨Env.ext⟩
open Classical in
/-- what a call leaves: where nothing that was there has turned and the value leads nowhere, just that -/
noncomputable def trunc (H : LH) (r : Value × LH) : Value × LH := if flatB r.1 = true ∧ H.le r.2 then (r.1, H) else r
def enter (args : List Value) : Fr := fun t => args.getD t undef
noncomputable def lcall (P : Program) (ext : Env) : Nat → Callee
  | 0, _, _, _ => none
  | n + 1, f, args, H =>
    match ext f with
    | some s => s args H
    | none =>
      match P.funcs[f]? with
      | some fn => match fn.body with
        | some c => if args.length ≤ fn.ntmps ∧ fn.name ≠ "runtime.NumGoroutine" ∧ codeOk ext.loud c = true then (run P ext.loud (lcall P ext n) fn n [.code c] (enter args) H).map (trunc H) else none
        | none => none
      | none => none
end Go.Lg
