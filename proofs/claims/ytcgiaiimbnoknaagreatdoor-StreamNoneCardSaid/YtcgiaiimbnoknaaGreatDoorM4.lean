/-
  Texts joined, part 4: LgEv, LgEvB, LgEvC, PgS, LgEnd, LgRow, LgQui, LgMore, PgT, LgLift, HdRun, Facts, LgApp, LgNum, StBase, StBld, StRows, StLib.
-/
import Derived.Test.YtcgiaiimbnoknaaGreatDoorM3
import Derived.Test.YtcgiaiimbnoknaaGreatDoorM1
import Derived.ChangeArms
import Derived.WideShapes
import Derived.Lib.LaidTab
import Derived.Test.YtcgiaiimbnoknaaGreatDoorRows
set_option linter.unusedSimpArgs false
set_option linter.unusedVariables false
namespace Go.Lg
open Go.Tg Go.RowKit
section
variable {P:Program}
@[simp] theorem pureVal_bind {α β:Type} (s:Sem α) (f:α→Sem β):pureVal P (s>>=f)=(pureVal P s).bind fun x=>pureVal P (f x):=by
 show pureVal P (s.bind f)=_
 induction s with
 |pure a=>rfl
 |program k ih=>exact ih P
 |mark m k ih=>exact ih
 |_=>rfl
@[simp] theorem pureVal_pure {α:Type} (x:α):pureVal P (pure x:Sem α)=some x:=rfl
@[simp] theorem pureVal_program:pureVal P program=some P:=rfl
@[simp] theorem pureVal_und (t:TypeId):pureVal P (underlying t)=P.underlying t:=by
 unfold underlying
 rw [pureVal_bind,pureVal_program,Option.bind_some]
 cases P.underlying t<;>rfl
@[simp] theorem pureVal_sizeOf (t:TypeId):pureVal P (sizeOf t)=sz P t:=by
 unfold sizeOf typeInfo sz
 simp only [pureVal_bind,pureVal_program,Option.bind_some]
 cases P.info? t<;>rfl
end
def str (l:List UInt8):Value:=.string ⟨l.toArray⟩
theorem str_ba (s:ByteArray):Value.string s=str s.data.toList:=by cases s;rfl
attribute [simp ↓] runs_skip runs_label runs_seq runs_block runs_inBlock runs_region runs_draw rops_nil rmix_nil rops_cons rmix_cons rmix_cons0 rops_guard rmix_guard
@[congr] theorem rres_congr {x y:Option Value} {H:LH} {Q:Value×LH→Prop} (h:x=y):RRes x H Q=RRes y H Q:=by rw [h]
@[simp] theorem rres_some {v:Value} {H:LH} {Q:Value×LH→Prop} :RRes (some v) H Q↔Q (v,H):=Iff.rfl
@[simp] theorem rres_none {H:LH} {Q:Value×LH→Prop} :RRes none H Q↔False:=Iff.rfl
attribute [simp ↓] rdr_none rdr_some rdr_perm rpm_go rch_none rch_nil rch_cons rch_cons0 rch_guard rc0_nil rc0_cons rc0_cons0 rc0_guard
attribute [simp] runs_nil runs_ret step_some mstep_some gstep_true gstep_false gmstep_true gmstep_false rsel_true rsel_false
section
variable {P:Program} {E:Ext} {fn:Func} {k:List Item} {fr:Fr} {H H' H0:LH} {Q:Value×LH→Prop} {all:Array Oper} {os:List Oper} {d:Nat} {op:Op} {T:Callee}
@[congr] theorem step_congr {x y:Option (Value×LH)} (h:x=y):Step P E fn x d all os k fr Q=Step P E fn y d all os k fr Q:=by rw [h]
@[congr] theorem mstep_congr {x y:Option (Value×LH)} (h:x=y):MStep P E fn x d all H0 os k fr Q=MStep P E fn y d all H0 os k fr Q:=by rw [h]
@[congr] theorem rsel_congr {x y:Bool} {A B:Prop} (h:x=y):RSel x A B=RSel y A B:=by rw [h]
@[congr] theorem gstep_congr {x y:Option Bool} (h:x=y):GStep P E fn x op d all os k fr H Q=GStep P E fn y op d all os k fr H Q:=by rw [h]
@[congr] theorem gmstep_congr {x y:Option Bool} (h:x=y):GMStep P E fn x op d all H0 os k fr H Q=GMStep P E fn y op d all H0 os k fr H Q:=by rw [h]
@[congr] theorem rdr_congr {x y:Option (List (Nat×Nat))} {p q:List Nat} {l:List Oper} (h:x=y) (g:p=q):RDr P E fn x p l k fr H Q=RDr P E fn y q l k fr H Q:=by rw [h,g]
@[congr] theorem rpm_congr {prs:List (Nat×Nat)} {l l':List Oper} (h:l=l'):RPm P E fn prs l k fr H Q=RPm P E fn prs l' k fr H Q:=by rw [h]
@[congr] theorem c0step_congr {x y:Option (Value×LH)} (h:x=y):C0Step P E fn x d all os k fr Q=C0Step P E fn y d all os k fr Q:=by rw [h]
@[congr] theorem c0step0_congr {x y:Option (Value×LH)} (h:x=y):C0Step0 P E fn x all os k fr Q=C0Step0 P E fn y all os k fr Q:=by rw [h]
@[congr] theorem c0g_congr {x y:Option Bool} (h:x=y):C0G P E fn x op d all os k fr H Q=C0G P E fn y op d all os k fr H Q:=by rw [h]
@[simp] theorem c0step_some {v:Value} :C0Step P E fn (some (v,H)) d all os k fr Q↔d<fn.ntmps∧RC0 P E fn all os k (upd fr d v) H Q:=Iff.rfl
@[simp] theorem c0step_none:C0Step P E fn none d all os k fr Q↔False:=Iff.rfl
@[simp] theorem c0step0_some {v:Value} :C0Step0 P E fn (some (v,H)) all os k fr Q↔RC0 P E fn all os k fr H Q:=Iff.rfl
@[simp] theorem c0step0_none:C0Step0 P E fn none all os k fr Q↔False:=Iff.rfl
@[simp] theorem c0g_true:C0G P E fn (some true) op d all os k fr H Q↔C0Step P E fn (lopxC E.loud.cv P (LC P E) op fr H) d all os k fr Q:=Iff.rfl
@[simp] theorem c0g_false:C0G P E fn (some false) op d all os k fr H Q↔d<fn.ntmps∧RC0 P E fn all os k (upd fr d undef) H Q:=Iff.rfl
theorem c0g_b {b:Bool} :C0G P E fn (some b) op d all os k fr H Q↔(b=true→C0Step P E fn (lopxC E.loud.cv P (LC P E) op fr H) d all os k fr Q)∧(b=false→d<fn.ntmps∧RC0 P E fn all os k (upd fr d undef) H Q):=by cases b<;>simp
attribute [simp low] c0g_b
section
variable {prs:List (Nat×Nat)} {j:Nat} {old:Nat→Fr×LH} {v:Value} {x:Fr×LH}
@[congr] theorem cstep_congr {x y:Option (Value×LH)} (h:x=y):CStep P E fn x d op all prs j old os k fr H Q=CStep P E fn y d op all prs j old os k fr H Q:=by rw [h]
@[congr] theorem cstep0_congr {x y:Option (Value×LH)} (h:x=y):CStep0 P E fn x op all prs j old os k fr H Q=CStep0 P E fn y op all prs j old os k fr H Q:=by rw [h]
@[congr] theorem cg_congr {x y:Option Bool} (h:x=y):CG P E fn x op d all prs j old os k fr H Q=CG P E fn y op d all prs j old os k fr H Q:=by rw [h]
@[simp] theorem cstep_some:CStep P E fn (some (v,H')) d op all prs j old os k fr H Q↔d<fn.ntmps∧ckR P j op fr old v prs∧ckH P j all old (upd fr d v) H' prs∧RCh P E fn all prs (j+1) (oldS old j (fr,H)) os k (upd fr d v) H' Q:=Iff.rfl
@[simp] theorem cstep_none:CStep P E fn none d op all prs j old os k fr H Q↔False:=Iff.rfl
@[simp] theorem cstep0_some:CStep0 P E fn (some (v,H')) op all prs j old os k fr H Q↔ckR P j op fr old v prs∧ckH P j all old fr H' prs∧RCh P E fn all prs (j+1) (oldS old j (fr,H)) os k fr H' Q:=Iff.rfl
@[simp] theorem cstep0_none:CStep0 P E fn none op all prs j old os k fr H Q↔False:=Iff.rfl
@[simp] theorem cg_true:CG P E fn (some true) op d all prs j old os k fr H Q↔CStep P E fn (lopxC E.loud.cv P (LC P E) op fr H) d op all prs j old os k fr H Q:=Iff.rfl
@[simp] theorem cg_false:CG P E fn (some false) op d all prs j old os k fr H Q↔d<fn.ntmps∧ckH P j all old (upd fr d undef) H prs∧RCh P E fn all prs (j+1) (oldS old j (fr,H)) os k (upd fr d undef) H Q:=Iff.rfl
theorem cg_b {b:Bool} :CG P E fn (some b) op d all prs j old os k fr H Q↔(b=true→CStep P E fn (lopxC E.loud.cv P (LC P E) op fr H) d op all prs j old os k fr H Q)∧(b=false→d<fn.ntmps∧ckH P j all old (upd fr d undef) H prs∧RCh P E fn all prs (j+1) (oldS old j (fr,H)) os k (upd fr d undef) H Q):=by cases b<;>simp
attribute [simp low] cg_b
@[simp ↓] theorem oldS_get {i:Nat} :oldS old j x i=if i=j then x else old i:=rfl
@[simp ↓] theorem ckR_nil:ckR P j op fr old v []↔True:=Iff.rfl
@[simp ↓] theorem ckR_cons {a b:Nat} :ckR P j op fr old v ((a,b)::prs)↔(a=j∧b<j→lopx P T0 op fr (old b).2=some (v,(old b).2))∧ckR P j op fr old v prs:=Iff.rfl
@[simp ↓] theorem ckH_nil:ckH P j all old fr H' []↔True:=Iff.rfl
def lget:List Oper→Nat→Option Oper
 | [],_=>none
 |o::_,0=>some o
 |_::l,n+1=>lget l n
theorem lget_eq: ∀(l:List Oper) (j:Nat),l[j]?=lget l j
 | [],j=>by cases j<;>rfl
 |o::l,0=>rfl
 |o::l,n+1=>lget_eq l n
@[simp ↓] theorem lget_zero {o:Oper} {l:List Oper} :lget (o::l) 0=some o:=rfl
@[simp ↓] theorem lget_succ {o:Oper} {l:List Oper} {n:Nat} :lget (o::l) (n+1)=lget l n:=rfl
@[simp ↓] theorem ckH_cons {a b:Nat} {l:List Oper} :ckH P j ⟨l⟩ old fr H' ((a,b)::prs)↔(b=j∧a<j→ckOp P ⟨l⟩ (lget l a) (old a) fr H')∧ckH P j ⟨l⟩ old fr H' prs:=by
 have e:(⟨l⟩:Array Oper)[a]?=lget l a:=by
  rw [←lget_eq]
  show(l.toArray)[a]?=_
  rw [List.getElem?_toArray]
 rw [←e];exact Iff.rfl
@[simp ↓] theorem ckOp_plain {ty:TypeId} {pos:String} {after:Array Edge} {l:List Oper} :ckOp P ⟨l⟩ (some ⟨some d,op,ty,pos,after,none⟩) x fr H'↔lopx P T0 op x.1 H'=some (fr d,H'):=by
 unfold ckOp
 constructor
 ·intro h;exact h d rfl rfl
 ·intro h d' hd _
  injection hd with hd
  subst hd;exact h
def gtr (x:Option Bool):Prop:=x=some true
@[simp] theorem gtr_some {b:Bool} :gtr (some b)↔b=true:=by unfold gtr;simp
@[simp ↓] theorem ckOp_guard {ty:TypeId} {pos:String} {after:Array Edge} {l:List Oper} {g:Nat} {want:Bool} :ckOp P ⟨l⟩ (some ⟨some d,op,ty,pos,after,some (g,want)⟩) x fr H'↔(gtr (guardx ⟨l⟩ x.1 g want)→lopx P T0 op x.1 H'=some (fr d,H')):=by
 unfold ckOp gtr
 constructor
 ·intro h hg;exact h d rfl hg
 ·intro h d' hd hw
  injection hd with hd
  subst hd;exact h hw
end
@[simp] theorem step_none:Step P E fn none d all os k fr Q↔False:=Iff.rfl
@[simp] theorem mstep_none:MStep P E fn none d all H0 os k fr Q↔False:=Iff.rfl
@[simp ↓] theorem upd_get {v:Value} {t:Nat} :upd fr d v t=if t=d then v else fr t:=rfl
@[simp ↓] theorem ev_tmp {t:Nat} :ev fr (.tmp t)=fr t:=rfl
@[simp ↓] theorem ev_int {kd:IntKind} {n:Int} :ev fr (.const (.int kd n))=.int kd n:=rfl
@[simp ↓] theorem ev_bool {b:Bool} :ev fr (.const (.bool b))=.bool b:=rfl
@[simp ↓] theorem ev_str {l:List UInt8} :ev fr (.const (.string ⟨l.toArray⟩))=str l:=rfl
@[simp ↓] theorem ev_nil:ev fr (.const (.pointer none))=.pointer none:=rfl
@[simp ↓] theorem ev_nilslice:ev fr (.const (.slice none 0 0))=.slice none 0 0:=rfl
@[simp ↓] theorem ev_func {f:FuncId} :ev fr (.func f)=.func (.func f) #[] #[]:=rfl
def RCond (P:Program) (E:Ext) (fn:Func) (c:Value) (x y:Code) (k:List Item) (fr:Fr) (H:LH) (Q:Value×LH→Prop):Prop:=
 match c with
 |.bool b=>(b=true→Runs P E fn (.code x::k) fr H Q)∧(b=false→Runs P E fn (.code y::k) fr H Q)
 |_=>False
@[congr] theorem rcond_congr {c c':Value} {x y:Code} (h:c=c'):RCond P E fn c x y k fr H Q=RCond P E fn c' x y k fr H Q:=by rw [h]
@[simp ↓] theorem runs_cond' {c:Operand} {x y:Code} :Runs P E fn (.code (.cond c x y)::k) fr H Q↔RCond P E fn (ev fr c) x y k fr H Q:=by
 unfold RCond
 cases h:ev fr c with
 |bool b=>rw [runs_cond h];cases b<;>simp
 |_=>
  simp only [iff_false]
  rintro⟨n,r,hn,_⟩
  cases n with
  |zero=>simp [run]at hn
  |succ n=>simp [run,h]at hn
@[simp] theorem rcond_true {x y:Code} :RCond P E fn (.bool true) x y k fr H Q↔Runs P E fn (.code x::k) fr H Q:=by simp [RCond]
@[simp] theorem rcond_false {x y:Code} :RCond P E fn (.bool false) x y k fr H Q↔Runs P E fn (.code y::k) fr H Q:=by simp [RCond]
@[simp low] theorem rcond_b {b:Bool} {x y:Code} :RCond P E fn (.bool b) x y k fr H Q↔(b=true→Runs P E fn (.code x::k) fr H Q)∧(b=false→Runs P E fn (.code y::k) fr H Q):=Iff.rfl
@[simp ↓] theorem runs_exit' {id:Nat} :Runs P E fn (.code (.exit id)::k) fr H Q↔match exitTo id k with|some k'=>Runs P E fn k' fr H Q|none=>False:=runs_exit
@[simp] theorem exit_nil {id:Nat} :exitTo id []=none:=rfl
@[simp] theorem exit_block {id j:Nat} :exitTo id (.inBlock j::k)=if j==id then some k else exitTo id k:=rfl
@[simp] theorem exit_code {id:Nat} {c:Code} :exitTo id (.code c::k)=exitTo id k:=rfl
@[simp] theorem exit_loop {id:Nat} {c:Code} :exitTo id (.inLoop c::k)=exitTo id k:=rfl
def lnth:List Oper→Nat→Option Tmp
 | [],_=>none
 |o::_,0=>o.dst
 |_::l,n+1=>lnth l n
theorem lnth_eq: ∀(l:List Oper) (j:Nat),(l[j]?).bind (·.dst)=lnth l j
 | [],j=>by cases j<;>rfl
 |o::l,0=>rfl
 |o::l,n+1=>lnth_eq l n
attribute [simp] pidx
@[simp ↓] theorem pnth_zero {o:Oper} {l:List Oper} :pnth (o::l) 0=o:=rfl
@[simp ↓] theorem pnth_succ {o:Oper} {l:List Oper} {n:Nat} :pnth (o::l) (n+1)=pnth l n:=rfl
@[simp] theorem pren_none {p:List Nat} {d:Option Tmp} {op:Op} {ty:TypeId} {pos:String} {after:Array Edge} :pren p ⟨d,op,ty,pos,after,none⟩=⟨d,op,ty,pos,preE p after,none⟩:=rfl
@[simp] theorem pren_some {p:List Nat} {d:Option Tmp} {op:Op} {ty:TypeId} {pos:String} {after:Array Edge} {g:Nat} {b:Bool} :pren p ⟨d,op,ty,pos,after,some (g,b)⟩=⟨d,op,ty,pos,preE p after,some (pidx p g,b)⟩:=rfl
@[simp] theorem pmap_nil {p:List Nat} {l:List Oper} :pmap p l []= []:=rfl
@[simp] theorem pmap_cons {p:List Nat} {l:List Oper} {i:Nat} {is:List Nat} :pmap p l (i::is)=pren p (pnth l i)::pmap p l is:=rfl
@[simp ↓] theorem lnth_zero {dst:Option Tmp} {op:Op} {ty:TypeId} {pos:String} {after:Array Edge} {g:Option (Nat×Bool)} {l:List Oper} :lnth (⟨dst,op,ty,pos,after,g⟩::l) 0=dst:=rfl
@[simp ↓] theorem lnth_succ {o:Oper} {l:List Oper} {n:Nat} :lnth (o::l) (n+1)=lnth l n:=rfl
def gval (v:Value) (want:Bool):Option Bool:=match v with
 |.bool b=>some (b==want)
 |v=>if flatB v then some false else none
def gdst (d:Option Tmp) (fr:Fr) (want:Bool):Option Bool:=match d with
 |none=>some false
 |some d=>gval (fr d) want
@[simp ↓] theorem guardx_mk {l:List Oper} {j:Nat} {want:Bool} :guardx ⟨l⟩ fr j want=gdst (lnth l j) fr want:=by
 unfold guardx
 rw [←lnth_eq]
 show(match (l.toArray[j]?).bind (·.dst)with|none=>_|some d=>_)=_
 rw [List.getElem?_toArray]
 cases (l[j]?).bind (·.dst)<;>rfl
@[simp] theorem gdst_some {d:Nat} {want:Bool} :gdst (some d) fr want=gval (fr d) want:=rfl
@[simp] theorem gval_true {b:Bool} :gval (.bool b) true=some b:=by cases b<;>rfl
@[simp] theorem gval_false {b:Bool} :gval (.bool b) false=some (!b):=by cases b<;>rfl
@[simp] theorem gval_undef {want:Bool} :gval undef want=some false:=rfl
theorem gstep_b {b:Bool} :GStep P E fn (some b) op d all os k fr H Q↔(b=true→Step P E fn (lopxB P (LC P E) op fr H) d all os k fr Q)∧(b=false→d<fn.ntmps∧ROps P E fn all os k (upd fr d undef) H Q):=by cases b<;>simp
theorem gmstep_b {b:Bool} :GMStep P E fn (some b) op d all H0 os k fr H Q↔(b=true→MStep P E fn (lmixx P (LC P E) op fr H0 H) d all H0 os k fr Q)∧(b=false→d<fn.ntmps∧RMix P E fn all H0 os k (upd fr d undef) H Q):=by cases b<;>simp
attribute [simp low] gstep_b gmstep_b
@[simp ↓] theorem lopx_move {x:Operand} :lopx P T (.move x) fr H=some (ev fr x,H):=rfl
@[simp ↓] theorem lopx_assign {x:Operand} :lopx P T (.assign x) fr H=some (ev fr x,H):=rfl
def lpick (c a b:Value) (H:LH):Option (Value×LH):=match c with|.bool t=>some (if t then a else b,H)|_=>none
@[simp ↓] theorem lopx_pick {c x y:Operand} :lopx P T (.pick c x y) fr H=lpick (ev fr c) (ev fr x) (ev fr y) H:=rfl
@[simp] theorem lpick_bool {t:Bool} {a b:Value} :lpick (.bool t) a b H=some (if t=true then a else b,H):=rfl
def withH (v:Option Value) (H:LH):Option (Value×LH):=v.map fun v=>(v,H)
@[simp] theorem withH_some {v:Value} :withH (some v) H=some (v,H):=rfl
@[simp ↓] theorem lopx_bin {op:BinOp} {t yt:TypeId} {x y:Operand} :lopx P T (.binOp op t x y yt) fr H=withH (lbin P op t (ev fr x) (ev fr y)) H:=rfl
def lidx (P:Program) (t:TypeId) (x i:Value):Option Value:=if flatB x&&flatB i then pureFlat P (Instr.index t x i)else none
@[simp ↓] theorem lopx_index {t:TypeId} {x i:Operand} :lopx P T (.index t x i) fr H=withH (lidx P t (ev fr x) (ev fr i)) H:=by
 show(if flatB (ev fr x)&&flatB (ev fr i)then _ else _)=withH (lidx _ _ _ _) _
 unfold lidx withH;split<;>rfl
def lun (P:Program) (op:UnOp) (x:Value):Option Value:=if flatB x then pureFlat P (Op.unary op x)else none
@[simp ↓] theorem lopx_un {op:UnOp} {t:TypeId} {x:Operand} :lopx P T (.unOp op t x) fr H=withH (lun P op (ev fr x)) H:=by
 show(if flatB (ev fr x)then _ else _)=withH (lun _ _ _) _
 unfold lun withH;split<;>rfl
def lconv (P:Program) (s d:TypeId) (x:Value) (H:LH):Option Value:=if flatB x then pureFlat P (convert s d x)else lbstr P s d x H
@[simp ↓] theorem lopx_conv {s d:TypeId} {x:Operand} :lopx P T (.convert s d x) fr H=withH (lconv P s d (ev fr x) H) H:=by
 show(if flatB (ev fr x)then _ else _)=withH (lconv _ _ _ _ _) _
 unfold lconv withH;split<;>rfl
def lextract (x:Value) (i:Nat):Option Value:=match x with|.tuple vs=>vs[i]?|_=>none
@[simp ↓] theorem lopx_extract {x:Operand} {i:Nat} :lopx P T (.extract x i) fr H=withH (lextract (ev fr x) i) H:=by
 show(match ev fr x with|.tuple vs=>_|_=>none)=withH (lextract _ _) _
 cases ev fr x<;>rfl
@[simp] theorem lextract_0 {a:Value} {l:List Value} :lextract (.tuple ⟨a::l⟩) 0=some a:=rfl
@[simp] theorem lextract_1 {a b:Value} {l:List Value} :lextract (.tuple ⟨a::b::l⟩) 1=some b:=rfl
@[simp] theorem lextract_2 {a b c:Value} {l:List Value} :lextract (.tuple ⟨a::b::c::l⟩) 2=some c:=rfl
@[simp] theorem lextract_3 {a b c d:Value} {l:List Value} :lextract (.tuple ⟨a::b::c::d::l⟩) 3=some d:=rfl
@[simp ↓] theorem lopx_call {f:Operand} {args:List Operand} {ts:Array TypeId} :lopx P T (.call ⟨.value f,⟨args⟩,ts⟩) fr H=lcallee P T (ev fr f) (args.map (ev fr)) H:=rfl
@[simp ↓] theorem lopx_builtin {b:Builtin} {args:List Operand} {ts:List TypeId} :lopx P T (.call ⟨.builtin b,⟨args⟩,⟨ts⟩⟩) fr H=lbuiltin P b ts (args.map (ev fr)) H:=rfl
@[simp] theorem lcallee_func {g:FuncId} {args:List Value} :lcallee P T (.func (.func g) #[] #[]) args H=T g args H:=by simp [lcallee]
@[simp ↓] theorem lopxB_move {x:Operand} :lopxB P T (.move x) fr H=lopx P T (.move x) fr H:=rfl
@[simp ↓] theorem lopxB_assign {x:Operand} :lopxB P T (.assign x) fr H=lopx P T (.assign x) fr H:=rfl
@[simp ↓] theorem lopxB_pick {c x y:Operand} :lopxB P T (.pick c x y) fr H=lopx P T (.pick c x y) fr H:=rfl
@[simp ↓] theorem lopxB_alloc {t:TypeId} :lopxB P T (.alloc t) fr H=lopx P T (.alloc t) fr H:=rfl
@[simp ↓] theorem lopxB_box {t:TypeId} {x:Operand} :lopxB P T (.box t x) fr H=lopx P T (.box t x) fr H:=rfl
@[simp ↓] theorem lopxB_build {t:TypeId} {ps:Array (Nat×Operand)} :lopxB P T (.build t ps) fr H=lopx P T (.build t ps) fr H:=rfl
@[simp ↓] theorem lopxB_buildSlice {t:TypeId} {n:Nat} {ps:Array (Nat×Operand)} :lopxB P T (.buildSlice t n ps) fr H=lopx P T (.buildSlice t n ps) fr H:=rfl
@[simp ↓] theorem lopxB_load {t:TypeId} {x:Operand} :lopxB P T (.load t x) fr H=lopx P T (.load t x) fr H:=rfl
@[simp ↓] theorem lopxB_store {t:TypeId} {x y:Operand} :lopxB P T (.store t x y) fr H=lopx P T (.store t x y) fr H:=rfl
@[simp ↓] theorem lopxB_nilCheck {x:Operand} :lopxB P T (.nilCheck x) fr H=lopx P T (.nilCheck x) fr H:=rfl
@[simp ↓] theorem lopxB_binOp {o:BinOp} {t u:TypeId} {x y:Operand} :lopxB P T (.binOp o t x y u) fr H=lopx P T (.binOp o t x y u) fr H:=rfl
@[simp ↓] theorem lopxB_unOp {o:UnOp} {t:TypeId} {x:Operand} :lopxB P T (.unOp o t x) fr H=lopx P T (.unOp o t x) fr H:=rfl
@[simp ↓] theorem lopxB_makeFunc {f:Fn} {g c:Array Operand} :lopxB P T (.makeFunc f g c) fr H=lopx P T (.makeFunc f g c) fr H:=rfl
@[simp ↓] theorem lopxB_makeSlice {t:TypeId} {x y:Operand} :lopxB P T (.makeSlice t x y) fr H=lopx P T (.makeSlice t x y) fr H:=rfl
@[simp ↓] theorem lopxB_slice {t:TypeId} {x:Operand} {lo hi mx:Option Operand} :lopxB P T (.slice t x lo hi mx) fr H=lopx P T (.slice t x lo hi mx) fr H:=rfl
@[simp ↓] theorem lopxB_fieldAddr {t:TypeId} {x:Operand} {i:Nat} :lopxB P T (.fieldAddr t x i) fr H=lopx P T (.fieldAddr t x i) fr H:=rfl
@[simp ↓] theorem lopxB_field {t:TypeId} {x:Operand} {i:Nat} :lopxB P T (.field t x i) fr H=lopx P T (.field t x i) fr H:=rfl
@[simp ↓] theorem lopxB_indexAddr {t:TypeId} {x y:Operand} :lopxB P T (.indexAddr t x y) fr H=lopx P T (.indexAddr t x y) fr H:=rfl
@[simp ↓] theorem lopxB_index {t:TypeId} {x y:Operand} :lopxB P T (.index t x y) fr H=lopx P T (.index t x y) fr H:=rfl
@[simp ↓] theorem lopxB_extract {x:Operand} {i:Nat} :lopxB P T (.extract x i) fr H=lopx P T (.extract x i) fr H:=rfl
@[simp ↓] theorem lopxB_call {c:Call} :lopxB P T (.call c) fr H=lopx P T (.call c) fr H:=rfl
@[simp ↓] theorem lopxC_move {cv:TypeId→TypeId→Bool} {x:Operand} :lopxC cv P T (.move x) fr H=lopx P T (.move x) fr H:=rfl
@[simp ↓] theorem lopxC_assign {cv:TypeId→TypeId→Bool} {x:Operand} :lopxC cv P T (.assign x) fr H=lopx P T (.assign x) fr H:=rfl
@[simp ↓] theorem lopxC_pick {cv:TypeId→TypeId→Bool} {c x y:Operand} :lopxC cv P T (.pick c x y) fr H=lopx P T (.pick c x y) fr H:=rfl
@[simp ↓] theorem lopxC_alloc {cv:TypeId→TypeId→Bool} {t:TypeId} :lopxC cv P T (.alloc t) fr H=lopx P T (.alloc t) fr H:=rfl
@[simp ↓] theorem lopxC_box {cv:TypeId→TypeId→Bool} {t:TypeId} {x:Operand} :lopxC cv P T (.box t x) fr H=lopx P T (.box t x) fr H:=rfl
@[simp ↓] theorem lopxC_build {cv:TypeId→TypeId→Bool} {t:TypeId} {ps:Array (Nat×Operand)} :lopxC cv P T (.build t ps) fr H=lopx P T (.build t ps) fr H:=rfl
@[simp ↓] theorem lopxC_buildSlice {cv:TypeId→TypeId→Bool} {t:TypeId} {n:Nat} {ps:Array (Nat×Operand)} :lopxC cv P T (.buildSlice t n ps) fr H=lopx P T (.buildSlice t n ps) fr H:=rfl
@[simp ↓] theorem lopxC_load {cv:TypeId→TypeId→Bool} {t:TypeId} {x:Operand} :lopxC cv P T (.load t x) fr H=lopx P T (.load t x) fr H:=rfl
@[simp ↓] theorem lopxC_store {cv:TypeId→TypeId→Bool} {t:TypeId} {x y:Operand} :lopxC cv P T (.store t x y) fr H=lopx P T (.store t x y) fr H:=rfl
@[simp ↓] theorem lopxC_nilCheck {cv:TypeId→TypeId→Bool} {x:Operand} :lopxC cv P T (.nilCheck x) fr H=lopx P T (.nilCheck x) fr H:=rfl
@[simp ↓] theorem lopxC_binOp {cv:TypeId→TypeId→Bool} {o:BinOp} {t u:TypeId} {x y:Operand} :lopxC cv P T (.binOp o t x y u) fr H=lopx P T (.binOp o t x y u) fr H:=rfl
@[simp ↓] theorem lopxC_unOp {cv:TypeId→TypeId→Bool} {o:UnOp} {t:TypeId} {x:Operand} :lopxC cv P T (.unOp o t x) fr H=lopx P T (.unOp o t x) fr H:=rfl
@[simp ↓] theorem lopxC_makeFunc {cv:TypeId→TypeId→Bool} {f:Fn} {g c:Array Operand} :lopxC cv P T (.makeFunc f g c) fr H=lopx P T (.makeFunc f g c) fr H:=rfl
@[simp ↓] theorem lopxC_makeSlice {cv:TypeId→TypeId→Bool} {t:TypeId} {x y:Operand} :lopxC cv P T (.makeSlice t x y) fr H=lopx P T (.makeSlice t x y) fr H:=rfl
@[simp ↓] theorem lopxC_slice {cv:TypeId→TypeId→Bool} {t:TypeId} {x:Operand} {lo hi mx:Option Operand} :lopxC cv P T (.slice t x lo hi mx) fr H=lopx P T (.slice t x lo hi mx) fr H:=rfl
@[simp ↓] theorem lopxC_fieldAddr {cv:TypeId→TypeId→Bool} {t:TypeId} {x:Operand} {i:Nat} :lopxC cv P T (.fieldAddr t x i) fr H=lopx P T (.fieldAddr t x i) fr H:=rfl
@[simp ↓] theorem lopxC_field {cv:TypeId→TypeId→Bool} {t:TypeId} {x:Operand} {i:Nat} :lopxC cv P T (.field t x i) fr H=lopx P T (.field t x i) fr H:=rfl
@[simp ↓] theorem lopxC_indexAddr {cv:TypeId→TypeId→Bool} {t:TypeId} {x y:Operand} :lopxC cv P T (.indexAddr t x y) fr H=lopx P T (.indexAddr t x y) fr H:=rfl
@[simp ↓] theorem lopxC_index {cv:TypeId→TypeId→Bool} {t:TypeId} {x y:Operand} :lopxC cv P T (.index t x y) fr H=lopx P T (.index t x y) fr H:=rfl
@[simp ↓] theorem lopxC_extract {cv:TypeId→TypeId→Bool} {x:Operand} {i:Nat} :lopxC cv P T (.extract x i) fr H=lopx P T (.extract x i) fr H:=rfl
@[simp ↓] theorem lopxC_call {cv:TypeId→TypeId→Bool} {c:Call} :lopxC cv P T (.call c) fr H=lopx P T (.call c) fr H:=rfl
def lcvC (cv:TypeId→TypeId→Bool) (P:Program) (s d:TypeId) (v:Value) (H:LH):Option (Value×LH):=if cv s d=true then lbytes P s d v H else withH (lconv P s d v H) H
@[simp ↓] theorem lopxC_convert {cv:TypeId→TypeId→Bool} {s t:TypeId} {x:Operand} :lopxC cv P T (.convert s t x) fr H=lcvC cv P s t (ev fr x) H:=by
 unfold lcvC
 cases h:cv s t with
 |true=>show(if cv s t=true then _ else _)=_;rw [h];rfl
 |false=>show(if cv s t=true then _ else lopx P T (.convert s t x) fr H)=_;rw [h,lopx_conv];first|done|rfl
@[simp] theorem lcvC_no {cv:TypeId→TypeId→Bool} {s t:TypeId} {v:Value} (h:cv s t=false):lcvC cv P s t v H=withH (lconv P s t v H) H:=by unfold lcvC;simp [h]
@[simp] theorem lcvC_yes {cv:TypeId→TypeId→Bool} {s t:TypeId} {v:Value} (h:cv s t=true):lcvC cv P s t v H=lbytes P s t v H:=by unfold lcvC;simp [h]
def lcvB (P:Program) (s d:TypeId) (v:Value) (H:LH):Option (Value×LH):=match lbytesM P s d v H with
 |some r=>some r
 |none=>withH (lconv P s d v H) H
@[simp ↓] theorem lopxB_convert {s t:TypeId} {x:Operand} :lopxB P T (.convert s t x) fr H=lcvB P s t (ev fr x) H:=by
 show(match lbytesM P s t (ev fr x) H with|some r=>some r|none=>lopx P T (.convert s t x) fr H)=_
 rw [lopx_conv];rfl
theorem lbytes_no {s t:TypeId} {v:Value} (h: ∀bs,v≠.string bs):lbytes P s t v H=none:=by
 unfold lbytes
 split
 ·exact absurd rfl (h _)
 ·rfl
theorem lcvB_no {s t:TypeId} {v:Value} (h: ∀bs,v≠.string bs) (h2: ∀a n c,v≠.slice a n c):lcvB P s t v H=withH (lconv P s t v H) H:=by
 have e1:=lbytes_no (P:=P) (H:=H) (s:=s) (t:=t) h
 have e2:lmark P s t v H=none:=by
  unfold lmark
  split
  ·exact absurd rfl (h2 _ _ _)
  ·rfl
 unfold lcvB lbytesM;rw [e1,e2]
@[simp] theorem lcvB_int {s t:TypeId} {kd:IntKind} {n:Int} :lcvB P s t (.int kd n) H=withH (lconv P s t (.int kd n) H) H:=lcvB_no (fun _ h=>by cases h) (fun _ _ _ h=>by cases h)
@[simp] theorem lcvB_float {s t:TypeId} {kd:FloatKind} {n:Nat} :lcvB P s t (.float kd n) H=withH (lconv P s t (.float kd n) H) H:=lcvB_no (fun _ h=>by cases h) (fun _ _ _ h=>by cases h)
@[simp] theorem lcvB_slice {s t:TypeId} {a:Option Addr} {n c:Nat} (hne:s≠t):lcvB P s t (.slice a n c) H=withH (lconv P s t (.slice a n c) H) H:=by
 have e1:=lbytes_no (P:=P) (H:=H) (s:=s) (t:=t) (v:=.slice a n c) (fun _ h=>by cases h)
 have e2:lmark P s t (.slice a n c) H=none:=by
  unfold lmark
  split
  ·split
   ·split
    ·rw [if_neg (fun h=>hne h.1)]
    ·rfl
   ·rfl
  ·rfl
 unfold lcvB lbytesM;rw [e1,e2]
@[simp] theorem lcvB_undef {s t:TypeId} :lcvB P s t undef H=withH (lconv P s t undef H) H:=lcvB_no (fun _ h=>by cases h) (fun _ _ _ h=>by cases h)
theorem strCells_eq (l:List UInt8):Lib.strCells ⟨l.toArray⟩=l.map fun b=>Value.int .u8 b.toNat:=by simp [Lib.strCells]
@[simp] theorem lcvB_bytes {s t e:TypeId} {l:List UInt8} (hs:P.underlying s=some .string) (hd:P.underlying t=some (.slice e)) (he:P.underlying e=some (.int .u8)) (hz:sz P e=some 1):lcvB P s t (str l) H=some (.slice (some ⟨H.n,0,none⟩) l.length l.length,H.new ⟨l.map fun b=>Value.int .u8 b.toNat,MK P e,decide (l.length≤maxLen)⟩):=by
 unfold lcvB lbytesM lbytes str
 simp only [hs,hd,he,hz,strCells_eq,if_true]
 rw [show(⟨l.toArray⟩:ByteArray).size=l.length by show l.toArray.size=_;simp]
@[simp] theorem lbytes_bytes {s t e:TypeId} {l:List UInt8} (hs:P.underlying s=some .string) (hd:P.underlying t=some (.slice e)) (he:P.underlying e=some (.int .u8)) (hz:sz P e=some 1):lbytes P s t (str l) H=some (.slice (some ⟨H.n,0,none⟩) l.length l.length,H.new ⟨l.map fun b=>Value.int .u8 b.toNat,MK P e,decide (l.length≤maxLen)⟩):=by
 unfold lbytes str
 simp only [hs,hd,he,hz,strCells_eq,if_true]
 rw [show(⟨l.toArray⟩:ByteArray).size=l.length by show l.toArray.size=_;simp]
@[simp] theorem lcvB_strs {s t:TypeId} {l:List UInt8} (hd:P.underlying t=some .string):lcvB P s t (str l) H=withH (lconv P s t (str l) H) H:=by
 have:lbytes P s t (str l) H=none:=by
  unfold lbytes
  split
  ·rename_i h _;rw [hd]at h;cases h
  ·rfl
 have e2:lmark P s t (str l) H=none:=by
  unfold lmark
  split
  ·rename_i h;cases h
  ·rfl
 unfold lcvB lbytesM;rw [this,e2]
@[simp] theorem flat_int {kd:IntKind} {n:Int} :flatB (.int kd n)=true:=by simp [flatB,flat1B,atomB,str]
@[simp] theorem flat_bool {b:Bool} :flatB (.bool b)=true:=by simp [flatB,flat1B,atomB,str]
@[simp] theorem flat_str {l:List UInt8} :flatB (str l)=true:=by simp [flatB,flat1B,atomB,str]
@[simp] theorem flat_string {s:ByteArray} :flatB (.string s)=true:=by simp [flatB,flat1B,atomB,str]
@[simp] theorem flat_nil:flatB (.pointer none)=true:=by simp [flatB,flat1B,atomB,str]
@[simp] theorem flat_nilslice:flatB (.slice none 0 0)=true:=by simp [flatB,flat1B,atomB,str]
@[simp] theorem wrap64_in {n:Int} (h1: -9223372036854775808≤n) (h2:n≤9223372036854775807):IntKind.i64.wrap n=n:=IntWalk.i64_in _ ⟨h1,h2⟩
theorem lbin_ii {op:BinOp} {t:TypeId} {kd:IntKind} {a b:Int} {v:Value} (h:pureVal P (binOp op t (.int kd a) (.int kd b))=some v) (hv:flatB v=true):lbin P op t (.int kd a) (.int kd b)=some v:=by
 have e:pureVal P (do eqGuard op t (.tmp 0) (.tmp 0) (.int kd a) (.int kd b);binOp op t (.int kd a) (.int kd b):Sem Value)=some v:=by
  rw [←h];cases op<;>rfl
 show pureFlat P (do eqGuard op t (.tmp 0) (.tmp 0) _ _;binOp op t _ _)=some v
 unfold pureFlat
 rw [e]
 simp only [hv,if_true]
variable {t:TypeId} {kd:IntKind} {a b:Int}
@[simp] theorem lbin_add:lbin P .add t (.int kd a) (.int kd b)=some (.int kd (kd.wrap (a+b))):=lbin_ii (by simp [binOp,Op.intArith]) rfl
@[simp] theorem lbin_sub:lbin P .sub t (.int kd a) (.int kd b)=some (.int kd (kd.wrap (a-b))):=lbin_ii (by simp [binOp,Op.intArith]) rfl
@[simp] theorem lbin_mul:lbin P .mul t (.int kd a) (.int kd b)=some (.int kd (kd.wrap (a*b))):=lbin_ii (by simp [binOp,Op.intArith]) rfl
@[simp] theorem lbin_quo (h:b≠0):lbin P .quo t (.int kd a) (.int kd b)=some (.int kd (kd.wrap (a.tdiv b))):=lbin_ii (by simp [binOp,Op.intDiv,h]) rfl
@[simp] theorem lbin_rem (h:b≠0):lbin P .rem t (.int kd a) (.int kd b)=some (.int kd (a.tmod b)):=lbin_ii (by simp [binOp,Op.intDiv,h]) rfl
@[simp] theorem lbin_eq:lbin P .eql t (.int kd a) (.int kd b)=some (.bool (decide (a=b))):=lbin_ii (by by_cases h:a=b<;>simp [binOp,Op.intCmp,h]) rfl
@[simp] theorem lbin_ne:lbin P .neq t (.int kd a) (.int kd b)=some (.bool (decide (a≠b))):=lbin_ii (by
 simp only [binOp,Op.intCmp,ne_eq,not_true_eq_false,if_false]
 show some (Value.bool (a !=b))=_
 congr 2
 by_cases h:a=b<;>simp [h]) rfl
@[simp] theorem lbin_lt:lbin P .lss t (.int kd a) (.int kd b)=some (.bool (decide (a<b))):=lbin_ii (by simp [binOp,Op.intCmp]) rfl
@[simp] theorem lbin_le:lbin P .leq t (.int kd a) (.int kd b)=some (.bool (decide (a≤b))):=lbin_ii (by simp [binOp,Op.intCmp]) rfl
@[simp] theorem lbin_gt:lbin P .gtr t (.int kd a) (.int kd b)=some (.bool (decide (b<a))):=lbin_ii (by simp [binOp,Op.intCmp]) rfl
@[simp] theorem lbin_ge:lbin P .geq t (.int kd a) (.int kd b)=some (.bool (decide (b≤a))):=lbin_ii (by simp [binOp,Op.intCmp]) rfl
theorem lbin_ss {op:BinOp} {t:TypeId} {a b:List UInt8} {v:Value} (h:pureVal P (binOp op t (str a) (str b))=some v) (hv:flatB v=true):lbin P op t (str a) (str b)=some v:=by
 have e:pureVal P (do eqGuard op t (.tmp 0) (.tmp 0) (str a) (str b);binOp op t (str a) (str b):Sem Value)=some v:=by
  rw [←h];cases op<;>rfl
 show pureFlat P (do eqGuard op t (.tmp 0) (.tmp 0) _ _;binOp op t _ _)=some v
 unfold pureFlat
 rw [e]
 simp only [hv,if_true]
theorem ba_list (l:List UInt8):(⟨l.toArray⟩:ByteArray).toList=l:=by rw [ba_toList]
theorem ba_size (l:List UInt8):(⟨l.toArray⟩:ByteArray).size=l.length:=by show l.toArray.size=_;simp
variable {x y:List UInt8}
@[simp] theorem lbin_seq:lbin P .eql t (str x) (str y)=some (.bool (decide (x=y))):=lbin_ss (by
 simp only [str,binOp,Op.stringOp,ba_list]
 show some (Value.bool (x==y))=_
 by_cases h:x=y<;>simp [h]) rfl
@[simp] theorem lbin_sne:lbin P .neq t (str x) (str y)=some (.bool (decide (x≠y))):=lbin_ss (by
 simp only [str,binOp,Op.stringOp,ba_list]
 show some (Value.bool (!(x==y)))=_
 by_cases h:x=y<;>simp [h]) rfl
@[simp] theorem lbin_cat (h:x.length+y.length≤9223372036854775807):lbin P .add t (str x) (str y)=some (str (x++y)):=lbin_ss (by
 simp only [str,binOp,Op.stringOp,ba_size]
 rw [if_neg (by rw [show IntKind.max .i64=9223372036854775807 from rfl];omega)]
 show some (Value.string _)=_
 congr 2) rfl
theorem lbin_bb {op:BinOp} {t:TypeId} {a b:Bool} {v:Value} (h:pureVal P (binOp op t (.bool a) (.bool b))=some v) (hv:flatB v=true):lbin P op t (.bool a) (.bool b)=some v:=by
 have e:pureVal P (do eqGuard op t (.tmp 0) (.tmp 0) (.bool a) (.bool b);binOp op t (.bool a) (.bool b):Sem Value)=some v:=by
  rw [←h];cases op<;>rfl
 show pureFlat P (do eqGuard op t (.tmp 0) (.tmp 0) _ _;binOp op t _ _)=some v
 unfold pureFlat
 rw [e]
 simp only [hv,if_true]
@[simp] theorem lun_not {a:Bool} :lun P .not (.bool a)=some (.bool (!a)):=rfl
@[simp] theorem lun_neg {a:Int} :lun P .neg (.int kd a)=some (.int kd (kd.wrap (0-a))):=rfl
def at_ (l:List UInt8) (i:Int):UInt8:=l.getD i.toNat 0
theorem lidx_str (hu:P.underlying t=some .string) {i:Int} (h0:0≤i) (h1:i<x.length):lidx P t (str x) (.int kd i)=some (.int .u8 (at_ x i).toNat):=by
 have hlt:i.toNat<x.length:=by omega
 have e:(⟨x.toArray⟩:ByteArray)[i.toNat]?=some (at_ x i):=by
  unfold at_
  have:(⟨x.toArray⟩:ByteArray)[i.toNat]?=x[i.toNat]?:=by
   rw [getElem?_def,getElem?_def]
   simp only [ba_size]
   rfl
  rw [this,List.getD_eq_getElem?_getD,List.getElem?_eq_getElem hlt];rfl
 have hp:pureVal P (Instr.index t (str x) (.int kd i))=some (.int .u8 (at_ x i).toNat):=by
  simp only [Instr.index,str,asIntOf,pureVal_bind,pureVal_pure,Option.bind_some,pureVal_und,hu]
  rw [if_pos h0,e];rfl
 show pureFlat P _=_
 unfold pureFlat
 rw [hp];rfl
theorem lbuiltin_len_str (hu:P.underlying t=some .string):lbuiltin P .len [t] [str x] H=some (.int .i64 x.length,H):=by
 simp only [lbuiltin,str,hu,ba_size]
theorem lbuiltin_len_slice {e:TypeId} (hu:P.underlying t=some (.slice e)) {ad:Option Addr} {n c:Nat} :lbuiltin P .len [t] [.slice ad n c] H=some (.int .i64 n,H):=by
 simp only [lbuiltin,hu]
end
abbrev ptr (l off:Nat):Value:=.pointer (some ⟨l,off,none⟩)
abbrev sl (l n c:Nat):Value:=.slice (some ⟨l,0,none⟩) n c
section
variable {P:Program} {E:Ext} {fn:Func} {k:List Item} {fr:Fr} {H H':LH} {Q:Value×LH→Prop} {all:Array Oper} {os:List Oper} {d:Nat} {op:Op} {T:Callee} {b c:LB} {l m:Nat}
@[simp] theorem enter_get {args:List Value} {t:Nat} :enter args t=args.getD t undef:=rfl
@[simp] theorem get_new:(H.new b).get H.n=some b:=by simp [LH.new]
theorem get_new':(H.new b).get l=if l=H.n then some b else H.get l:=rfl
@[simp] theorem get_new_ne (h:l≠H.n):(H.new b).get l=H.get l:=by simp [LH.new,h]
@[simp] theorem get_set:(H.set l b).get l=some b:=by simp [LH.set]
@[simp] theorem get_set_ne (h:m≠l):(H.set l b).get m=H.get m:=by simp [LH.set,h]
@[simp] theorem get_kill:(H.kill l).get l=none:=by simp [LH.kill]
@[simp] theorem get_kill_ne (h:m≠l):(H.kill l).get m=H.get m:=by simp [LH.kill,h]
@[simp] theorem n_new:(H.new b).n=H.n+1:=by simp only [LH.new]
@[simp] theorem n_set:(H.set l b).n=H.n:=by simp only [LH.set]
@[simp] theorem n_kill:(H.kill l).n=H.n:=by simp only [LH.kill]
@[simp] theorem n_ro:H.ro.n=H.n:=by simp only [LH.ro]
@[simp] theorem base_new:(H.new b).base=H.base:=by simp only [LH.new]
@[simp] theorem base_set:(H.set l b).base=H.base:=by simp only [LH.set]
@[simp] theorem base_kill:(H.kill l).base=H.base:=by simp only [LH.kill]
@[simp] theorem base_ro:H.ro.base=H.base:=by simp only [LH.ro]
@[simp] theorem ng_new:(H.new b).ng=H.ng:=by simp only [LH.new]
@[simp] theorem ng_set:(H.set l b).ng=H.ng:=by simp only [LH.set]
@[simp] theorem ng_kill:(H.kill l).ng=H.ng:=by simp only [LH.kill]
@[simp] theorem ng_ro:H.ro.ng=H.ng:=by simp only [LH.ro]
@[simp] theorem get_ro:H.ro.get l=(H.get l).map fun b=> { b with rw:=false } :=by simp only [LH.ro]
@[simp] theorem set_set:(H.set l b).set l c=H.set l c:=by
 unfold LH.set;simp only [LH.mk.injEq,true_and,and_true];funext k;split<;>simp_all
@[simp] theorem new_set:(H.new b).set H.n c=H.new c:=by
 unfold LH.new LH.set;simp only [LH.mk.injEq,true_and,and_true];funext k;split<;>simp_all
@[simp] theorem le_self:H.le H:=le_refl
theorem LH.le.trans {A B C:LH} (h:A.le B) (g:B.le C):A.le C:=⟨Nat.le_trans h.1 g.1,fun l hl=>(g.2 l (Nat.lt_of_lt_of_le hl h.1)).trans (h.2 l hl)⟩
theorem LH.le.new (h:H.le H'):H.le (H'.new b):=⟨Nat.le_succ_of_le h.1,fun l hl=>by
 have:=h.1
 rw [get_new_ne (by omega)];exact h.2 l hl⟩
theorem LH.le.set (h:H.le H') (hl:H.n≤l):H.le (H'.set l b):=⟨h.1,fun k hk=>by rw [get_set_ne (by omega)];exact h.2 k hk⟩
theorem LH.le.kill (h:H.le H') (hl:H.n≤l):H.le (H'.kill l):=⟨h.1,fun k hk=>by rw [get_kill_ne (by omega)];exact h.2 k hk⟩
def fldi (P:Program) (s:TypeId) (f:Nat):Option (Nat×Nat×Bool):=
 match P.underlying s with
 |some (.struct fs)=>match fs[f]? with
  |some fd=>match sz P fd.type,aggB P fd.type with
   |some n,some g=>some (fd.offset,n,g)
   |_,_=>none
  |none=>none
 |_=>none
def lfaddr (i:Option (Nat×Nat×Bool)) (x:Value) (H:LH):Option (Value×LH):=
 match i,x with
 |some (o,n,_),.pointer (some ⟨l,off,none⟩)=>if n=0 then none else some (ptr l (off+o),H)
 |_,_=>none
theorem lopx_fieldAddr {s:TypeId} {x:Operand} {f:Nat} {i:Nat×Nat×Bool} (h:fldi P s f=some i):lopx P T (.fieldAddr s x f) fr H=lfaddr (some i) (ev fr x) H:=by
 unfold fldi at h
 show(match ev fr x,P.underlying s with|.pointer (some ⟨l,off,none⟩),some (.struct fs)=>_|_,_=>none)=_
 split at h
 ·rename_i fs hu
  split at h
  ·rename_i fd hf
   split at h
   ·rename_i n g hs ha
    injection h with h
    subst h
    rw [hu]
    unfold lfaddr
    split
    ·rename_i e1 e2
     injection e2 with e2
     injection e2 with e2
     subst e2
     simp only [hf,hs,e1]
    ·rename_i h1
     split
     ·rename_i e1 e2
      exact absurd rfl (h1 _ _ _ e2)
     ·rfl
   ·cases h
  ·cases h
 ·cases h
attribute [simp] lopx_fieldAddr
@[simp] theorem lfaddr_ptr {o n off:Nat} {g:Bool} (h:n≠0):lfaddr (some (o,n,g)) (ptr l off) H=some (ptr l (off+o),H):=by simp [lfaddr,h]
def lldb (a:Option Bool) (s:Option Nat) (cs:List Value) (off:Nat):Option Value:=
 match a,s with
 |some true,some s=>if off+s≤cs.length then some (.agg ((cs.drop off).take s).toArray)else none
 |some false,_=>cs[off]?
 |_,_=>none
def lld (P:Program) (t:TypeId) (x:Value) (H:LH):Option Value:=match x with
 |.pointer (some ⟨l,off,none⟩)=>match H.get l with
  |some b=>lldb (aggB P t) (sz P t) b.cells off
  |none=>none
 |_=>none
theorem lload_eq {t:TypeId} {off:Nat} :lload P t l off H=lld P t (ptr l off) H:=by
 cases h:H.get l with
 |none=>simp only [lload,lld,h]
 |some b=>
  simp only [lload,lld,h,lldb]
  cases aggB P t with
  |none=>rfl
  |some g=>cases g<;>cases sz P t<;>simp [lcells]
@[simp ↓] theorem lopx_load {t:TypeId} {x:Operand} :lopx P T (.load t x) fr H=withH (lld P t (ev fr x) H) H:=by
 show(match ev fr x with|.pointer (some ⟨l,off,none⟩)=>(lload P t l off H).map fun v=>(v,H)|_=>none)=_
 split
 ·rename_i e;rw [e,lload_eq];rfl
 ·rename_i h
  unfold lld
  split
  ·rename_i e;exact absurd e (h _ _)
  ·rfl
theorem lld_ptr {t:TypeId} {off:Nat} (h:H.get l=some b):lld P t (ptr l off) H=lldb (aggB P t) (sz P t) b.cells off:=by simp [lld,h]
attribute [simp] lld_ptr
@[simp] theorem lldb_cell {s:Option Nat} {cs:List Value} {off:Nat} :lldb (some false) s cs off=cs[off]?:=rfl
@[simp] theorem lldb_agg {s:Nat} {cs:List Value} {off:Nat} (h:off+s≤cs.length):lldb (some true) (some s) cs off=some (.agg ((cs.drop off).take s).toArray):=by simp [lldb,h]
def lst (P:Program) (t:TypeId) (x v:Value) (H:LH):Option (Value×LH):=match x with
 |.pointer (some ⟨l,off,none⟩)=>(lstore P t l off v H).map fun H'=>(undef,H')
 |_=>none
@[simp ↓] theorem lopx_store {t:TypeId} {x y:Operand} :lopx P T (.store t x y) fr H=lst P t (ev fr x) (ev fr y) H:=rfl
theorem cells_one {v:Value} (h:cellB v=true):v.cells=#[v]:=by cases v<;>first|rfl|(simp [cellB]at h)
theorem lst_cell {t:TypeId} {off:Nat} {v:Value} (h:H.get l=some b) (hrw:b.rw=true) (hs:sz P t=some 1) (hv:cellB v=true) (ho:off<b.cells.length):
  lst P t (ptr l off) v H=some (undef,H.set l ⟨b.cells.set off v,b.elem,true⟩):=by
 have e1:splice b.cells off [v]=b.cells.set off v:=by
  unfold splice
  rw [List.set_eq_take_append_cons_drop,if_pos ho];simp
 simp only [lst,lstore,h,hs,cells_one hv]
 simp [hv,e1,hrw]
 omega
attribute [simp] lst_cell
theorem lst_agg {t:TypeId} {off n:Nat} {vs:List Value} (h:H.get l=some b) (hrw:b.rw=true) (hs:sz P t=some n) (hn:vs.length=n) (hv:vs.all cellB=true) (ho:off+n≤b.cells.length):
  lst P t (ptr l off) (.agg ⟨vs⟩) H=some (undef,H.set l ⟨splice b.cells off vs,b.elem,true⟩):=by
 subst hn
 have hv': ∀x∈vs,cellB x=true:=by simpa using hv
 simp only [lst,lstore,h,hs,Value.cells]
 simp [ho,hrw]
 exact hv'
attribute [simp] lst_agg
@[simp] theorem cell_int {kd:IntKind} {n:Int} :cellB (.int kd n)=true:=by simp only [cellB]
@[simp] theorem cell_bool {x:Bool} :cellB (.bool x)=true:=by simp only [cellB,str]
@[simp] theorem cell_str {x:List UInt8} :cellB (str x)=true:=by simp only [cellB,str]
@[simp] theorem cell_ptr {x:Option Addr} :cellB (.pointer x)=true:=by simp only [cellB,str]
@[simp] theorem cell_slice {x:Option Addr} {n c:Nat} :cellB (.slice x n c)=true:=by simp only [cellB,str]
@[simp] theorem cell_func {f:Fn} {x y:Array Value} :cellB (.func f x y)=true:=by simp only [cellB,str]
def Step0 (P:Program) (E:Ext) (fn:Func) (x:Option (Value×LH)) (all:Array Oper) (os:List Oper) (k:List Item) (fr:Fr) (Q:Value×LH→Prop):Prop:=
 match x with
 |some (_,H)=>ROps P E fn all os k fr H Q
 |none=>False
@[congr] theorem step0_congr {x y:Option (Value×LH)} (h:x=y):Step0 P E fn x all os k fr Q=Step0 P E fn y all os k fr Q:=by rw [h]
@[simp] theorem step0_some {v:Value} :Step0 P E fn (some (v,H)) all os k fr Q↔ROps P E fn all os k fr H Q:=Iff.rfl
@[simp] theorem step0_none:Step0 P E fn none all os k fr Q↔False:=Iff.rfl
@[simp ↓] theorem rops_cons0' {ty:TypeId} {pos:String} {after:Array Edge} :ROps P E fn all (⟨none,op,ty,pos,after,none⟩::os) k fr H Q↔Step0 P E fn (lopxB P (LC P E) op fr H) all os k fr Q:=by
 rw [rops_cons0];rfl
def lres (P:Program) (rs:List ResultVar) (fr:Fr) (H:LH):Option Value:=
 match rs.mapM (lresult P fr H)with
 |some [v]=>some v
 |some vs=>some (.tuple vs.toArray)
 |none=>none
@[simp] theorem lresults_eq:lresults P fn fr H=lres P fn.results.toList fr H:=rfl
def lres1 (P:Program) (r:ResultVar) (fr:Fr) (H:LH):Option Value:=match r with
 |.tmp t=>some (fr t)
 |.cell a t=>lld P t (fr a) H
theorem lresult_eq {x:ResultVar} :lresult P fr H x=lres1 P x fr H:=by
 cases x with
 |tmp t=>rfl
 |cell a t=>
  simp only [lresult,lres1]
  split
  ·rename_i e;rw [e,lload_eq]
  ·rename_i h
   unfold lld
   split
   ·rename_i e;exact absurd e (h _ _)
   ·rfl
@[simp] theorem lres1_tmp {t:Tmp} :lres1 P (.tmp t) fr H=some (fr t):=rfl
@[simp] theorem lres1_cell {a:Tmp} {t:TypeId} :lres1 P (.cell a t) fr H=lld P t (fr a) H:=rfl
@[simp] theorem lres_nil:lres P [] fr H=some (.tuple #[]):=rfl
@[simp] theorem lres_one {x:ResultVar} :lres P [x] fr H=lres1 P x fr H:=by
 simp only [lres,List.mapM_cons,List.mapM_nil,lresult_eq]
 cases lres1 P x fr H<;>rfl
@[simp] theorem lres_two {x y:ResultVar} :lres P [x,y] fr H=(lres1 P x fr H).bind fun a=>(lres1 P y fr H).bind fun b=>some (.tuple #[a,b]):=by
 simp only [lres,List.mapM_cons,List.mapM_nil,lresult_eq]
 cases lres1 P x fr H<;>cases lres1 P y fr H<;>rfl
@[simp] theorem lres_three {x y z:ResultVar} :lres P [x,y,z] fr H=(lres1 P x fr H).bind fun a=>(lres1 P y fr H).bind fun b=>(lres1 P z fr H).bind fun c=>some (.tuple #[a,b,c]):=by
 simp only [lres,List.mapM_cons,List.mapM_nil,lresult_eq]
 cases lres1 P x fr H<;>cases lres1 P y fr H<;>cases lres1 P z fr H<;>rfl
@[simp] theorem lres_four {x y z u:ResultVar} :lres P [x,y,z,u] fr H=(lres1 P x fr H).bind fun a=>(lres1 P y fr H).bind fun b=>(lres1 P z fr H).bind fun c=>(lres1 P u fr H).bind fun d=>some (.tuple #[a,b,c,d]):=by
 simp only [lres,List.mapM_cons,List.mapM_nil,lresult_eq]
 cases lres1 P x fr H<;>cases lres1 P y fr H<;>cases lres1 P z fr H<;>cases lres1 P u fr H<;>rfl
def lbox (s:Option Nat) (e:TypeId) (v:Value) (H:LH):Option (Value×LH):=if knownB v&&s==some v.cells.size then some (ptr H.n 0,H.new ⟨v.cells.toList,e,true⟩)else none
@[simp ↓] theorem lopx_box {e:TypeId} {x:Operand} :lopx P T (.box e x) fr H=lbox (sz P e) e (ev fr x) H:=rfl
@[simp] theorem lbox_agg {e:TypeId} {n:Nat} {vs:List Value} (h:vs.length=n):lbox (some n) e (.agg ⟨vs⟩) H=some (ptr H.n 0,H.new ⟨vs,e,true⟩):=by simp [lbox,knownB,Value.cells,h]
@[simp] theorem lbox_cell {e:TypeId} {v:Value} (h:cellB v=true):lbox (some 1) e v H=some (ptr H.n 0,H.new ⟨[v],e,true⟩):=by
 have:knownB v=true:=by cases v<;>first|rfl|(simp [cellB]at h)
 simp [lbox,this,cells_one h]
def lalloc (s:Option Nat) (z:Option Value) (e:TypeId) (H:LH):Option (Value×LH):=match z with
 |some z=>if flatB z&&s==some z.cells.size then some (ptr H.n 0,H.new ⟨z.cells.toList,e,true⟩)else none
 |none=>none
@[simp ↓] theorem lopx_alloc {e:TypeId} :lopx P T (.alloc e) fr H=lalloc (sz P e) (zr P e) e H:=rfl
@[simp] theorem lalloc_agg {e:TypeId} {n:Nat} {vs:List Value} (h:vs.length=n) (hf:vs.all atomB=true):lalloc (some n) (some (.agg ⟨vs⟩)) e H=some (ptr H.n 0,H.new ⟨vs,e,true⟩):=by
 have:flatB (.agg ⟨vs⟩)=true:=hf
 simp [lalloc,this,Value.cells,h]
@[simp] theorem lalloc_cell {e:TypeId} {v:Value} (h:cellB v=true) (hf:flatB v=true):lalloc (some 1) (some v) e H=some (ptr H.n 0,H.new ⟨[v],e,true⟩):=by simp [lalloc,hf,cells_one h]
@[simp] theorem zr_str:Value.string ⟨#[]⟩=str []:=rfl
@[simp ↓] theorem lopx_nilCheck {x:Operand} {ad:Addr} (h:ev fr x=.pointer (some ad)):lopx P T (.nilCheck x) fr H=some (.pointer (some ad),H):=by
 show(match ev fr x with|.pointer (some a)=>_|.func (.func g) f c=>_|_=>none)=_
 rw [h]
def sub (x:List UInt8) (i j:Int):List UInt8:=(x.take j.toNat).drop i.toNat
end
section
variable {P:Program} {E:Ext} {fn:Func} {k:List Item} {fr:Fr} {H H':LH} {Q:Value×LH→Prop} {all:Array Oper} {os:List Oper} {d:Nat} {op:Op} {T:Callee} {b c:LB} {l m:Nat} {t e:TypeId} {kd kd':IntKind} {x y:List UInt8} {i j:Int}
attribute [simp] lidx_str lbuiltin_len_str lbuiltin_len_slice
def evo (fr:Fr) (o:Option Operand):Option Value:=o.map (ev fr)
@[simp ↓] theorem evo_none:evo fr none=none:=rfl
@[simp ↓] theorem evo_some {x:Operand} :evo fr (some x)=some (ev fr x):=rfl
def lbd (d:Nat):Option Value→Option Nat
 |none=>some d
 |some (.int _ i)=>if 0≤i then some i.toNat else none
 |_=>none
theorem lbound_eq {d:Nat} {o:Option Operand} :lbound fr d o=lbd d (evo fr o):=by
 cases o with
 |none=>rfl
 |some x=>simp only [lbound,evo,Option.map_some];cases ev fr x<;>rfl
def lpart (P:Program) (t:TypeId) (x:Value) (lo hi:Option Value):Option Value:=
 match P.underlying t,x with
 |some .string,.string s=>
  match lbd 0 lo,lbd s.size hi with
  |some a,some b=>if a≤b∧b≤s.size then some (.string (s.extract a b))else none
  |_,_=>none
 |some (.slice e),.slice a n c=>
  match lbd 0 lo,lbd n hi,sz P e with
  |some i,some j,some s=>if i≤j∧j≤n then
    match a with
    |some ⟨l,o,none⟩=>some (.slice (some ⟨l,o+i*s,none⟩) (j-i) (c-i))
    |none=>some (.slice none 0 0)
    |_=>none
   else none
  |_,_,_=>none
 |_,_=>none
@[simp ↓] theorem lopx_slice {x:Operand} {lo hi:Option Operand} :lopx P T (.slice t x lo hi none) fr H=withH (lpart P t (ev fr x) (evo fr lo) (evo fr hi)) H:=by
 show(lslice P t (ev fr x) fr lo hi).map _=_
 unfold lslice lpart withH
 simp only [lbound_eq]
 rfl
theorem ext_str {a b:Nat} :(⟨x.toArray⟩:ByteArray).extract a b=⟨((x.take b).drop a).toArray⟩:=by
 apply ByteArray.ext
 rw [ByteArray.data_extract,List.drop_take]
 simp
theorem lpart_str0 {u:Option TypeDesc} (hu:P.underlying t=some .string) {a b:Option Value} {p q:Nat} (ha:lbd 0 a=some p) (hb:lbd x.length b=some q) (h:p≤q∧q≤x.length):lpart P t (str x) a b=some (str ((x.take q).drop p)):=by
 unfold lpart str
 simp only [hu,ha,ba_size,hb,if_pos h,ext_str]
theorem lbd_int {d:Nat} (h:0≤i):lbd d (some (.int kd i))=some i.toNat:=by simp only [lbd,if_pos h]
@[simp] theorem lpart_str_nn (hu:P.underlying t=some .string):lpart P t (str x) none none=some (str x):=by
 rw [lpart_str0 (u:=none) hu rfl rfl ⟨Nat.zero_le _,Nat.le_refl _⟩];simp
@[simp] theorem lpart_str_ns (hu:P.underlying t=some .string) (h0:0≤j) (h1:j≤x.length):lpart P t (str x) none (some (.int kd j))=some (str (x.take j.toNat)):=by
 rw [lpart_str0 (u:=none) hu rfl (lbd_int h0) ⟨Nat.zero_le _,by omega⟩];simp
@[simp] theorem lpart_str_sn (hu:P.underlying t=some .string) (h0:0≤i) (h1:i≤x.length):lpart P t (str x) (some (.int kd i)) none=some (str (x.drop i.toNat)):=by
 rw [lpart_str0 (u:=none) hu (lbd_int h0) rfl ⟨by omega,Nat.le_refl _⟩];simp
@[simp] theorem lpart_str_ss (hu:P.underlying t=some .string) (h0:0≤i) (h1:i≤j) (h2:j≤x.length):lpart P t (str x) (some (.int kd i)) (some (.int kd' j))=some (str (sub x i j)):=
 lpart_str0 (u:=none) hu (lbd_int h0) (lbd_int (by omega)) ⟨by omega,by omega⟩
theorem lpart_row0 {s o n c:Nat} (hu:P.underlying t=some (.slice e)) (hs:sz P e=some s) {a b:Option Value} {p q:Nat} (ha:lbd 0 a=some p) (hb:lbd n b=some q) (h:p≤q∧q≤n):lpart P t (.slice (some ⟨l,o,none⟩) n c) a b=some (.slice (some ⟨l,o+p*s,none⟩) (q-p) (c-p)):=by
 unfold lpart
 simp only [hu,ha,hs,hb,if_pos h]
@[simp] theorem lpart_row_nn {s o n c:Nat} (hu:P.underlying t=some (.slice e)) (hs:sz P e=some s):lpart P t (.slice (some ⟨l,o,none⟩) n c) none none=some (.slice (some ⟨l,o,none⟩) n c):=by
 rw [lpart_row0 hu hs rfl rfl ⟨Nat.zero_le _,Nat.le_refl _⟩];simp
@[simp] theorem lpart_row_ns {s o n c:Nat} (hu:P.underlying t=some (.slice e)) (hs:sz P e=some s) (h0:0≤j) (h1:j≤n):lpart P t (.slice (some ⟨l,o,none⟩) n c) none (some (.int kd j))=some (.slice (some ⟨l,o,none⟩) j.toNat c):=by
 rw [lpart_row0 hu hs rfl (lbd_int h0) ⟨Nat.zero_le _,by omega⟩];simp
@[simp] theorem lpart_row_sn {s o n c:Nat} (hu:P.underlying t=some (.slice e)) (hs:sz P e=some s) (h0:0≤i) (h1:i≤n):lpart P t (.slice (some ⟨l,o,none⟩) n c) (some (.int kd i)) none=some (.slice (some ⟨l,o+i.toNat*s,none⟩) (n-i.toNat) (c-i.toNat)):=by
 rw [lpart_row0 hu hs (lbd_int h0) rfl ⟨by omega,Nat.le_refl _⟩]
@[simp] theorem lpart_row_ss {s o n c:Nat} (hu:P.underlying t=some (.slice e)) (hs:sz P e=some s) (h0:0≤i) (h1:i≤j) (h2:j≤n):lpart P t (.slice (some ⟨l,o,none⟩) n c) (some (.int kd i)) (some (.int kd' j))=some (.slice (some ⟨l,o+i.toNat*s,none⟩) (j.toNat-i.toNat) (c-i.toNat)):=
 lpart_row0 hu hs (lbd_int h0) (lbd_int (by omega)) ⟨by omega,by omega⟩
@[simp] theorem lpart_nil {s:Nat} (hu:P.underlying t=some (.slice e)) (hs:sz P e=some s):lpart P t (.slice none 0 0) none none=some (.slice none 0 0):=by
 unfold lpart;simp [hu,lbd,hs]
def lixa (P:Program) (t:TypeId) (x i:Value) (H:LH):Option (Value×LH):=match x,i,P.underlying t with
 |.slice (some ⟨l,off,none⟩) n _,.int _ k,some (.slice e)=>match sz P e with
  |some s=>if 0≤k∧k<n then some (.pointer (some ⟨l,off+k.toNat*s,none⟩),H)else none
  |none=>none
 |_,_,_=>none
@[simp ↓] theorem lopx_indexAddr {x i:Operand} :lopx P T (.indexAddr t x i) fr H=lixa P t (ev fr x) (ev fr i) H:=rfl
@[simp] theorem lixa_row {s off n c:Nat} (hu:P.underlying t=some (.slice e)) (hs:sz P e=some s) (h0:0≤i) (h1:i<n):lixa P t (.slice (some ⟨l,off,none⟩) n c) (.int kd i) H=some (ptr l (off+i.toNat*s),H):=by
 simp only [lixa,hu,hs,if_pos (And.intro h0 h1)]
def lesrc (P:Program) (t:TypeId) (y:Value) (H:LH):Option (Nat×List Value):=
 match P.underlying t with
 |some (.slice e)=>match lesz P e with
  |some s=>lsrc s y H
  |none=>none
 |_=>none
@[simp] theorem lesrc_nil {s:Nat} (hu:P.underlying t=some (.slice e)) (hs:lesz P e=some s):lesrc P t (.slice none 0 0) H=some (0,[]):=by
 simp only [lesrc,hu,hs,lsrc]
@[simp] theorem lesrc_row {s o n c:Nat} (hu:P.underlying t=some (.slice e)) (hs:lesz P e=some s) (hb:H.get l=some b) (hle:o+n*s≤b.cells.length):lesrc P t (.slice (some ⟨l,o,none⟩) n c) H=some (n,(b.cells.drop o).take (n*s)):=by
 simp only [lesrc,hu,hs,lsrc,hb,lcells,if_pos hle,Option.map_some]
def lapp (P:Program) (t:TypeId) (x:Value) (src:Option (Nat×List Value)) (H:LH):Option (Value×LH):=
 match P.underlying t,src with
 |some (.slice e),some (m,new)=>
  match lesz P e with
  |some s=>
    if new.all cellB then
     match x with
     |.slice none 0 0=>if m=0 then some (x,H)else if m≤maxElems then some (.slice (some ⟨H.n,0,none⟩) m m,H.new ⟨new,e,true⟩)else none
     |.slice (some ⟨l,o,none⟩) n c=>
      match H.get l with
      |some b=>
       if b.rw=true∧b.elem=e∧o=0∧b.cells.length=c*s∧n≤c then
        if m=0 then some (x,H)
        else if n+m≤c then some (.slice (some ⟨l,0,none⟩) (n+m) c,H.set l { b with cells:=splice b.cells (n*s) new })
        else if n=c∧n+m≤maxElems then some (.slice (some ⟨H.n,0,none⟩) (n+m) (n+m),(H.kill l).new ⟨b.cells++new,e,true⟩)
        else none
       else lappM P e s l o n c b m new H
      |none=>none
     |_=>none
    else none
  |none=>none
 |_,_=>none
theorem lappend_eq {x y:Value} :lappend P t t x y H=lapp P t x (lesrc P t y H) H:=by
 unfold lappend lapp lesrc
 cases P.underlying t with
 |none=>rfl
 |some u=>
  cases u<;>try rfl
  rename_i e
  dsimp only
  cases hz:lesz P e with
  |none=>rfl
  |some s=>
   dsimp only
   rw [if_pos rfl]
   cases lsrc s y H with
   |none=>rfl
   |some q=>
    obtain⟨m,new⟩:=q
    simp only [hz]
    rfl
@[simp] theorem lbuiltin_append {x y:Value} :lbuiltin P .append [t,t] [x,y] H=lapp P t x (lesrc P t y H) H:=by
 rw [←lappend_eq];simp only [lbuiltin]
theorem lbuiltin_appends {u:TypeId} {x:Value} {z:List UInt8} (hne:t≠u) (ht:P.underlying t=some (.slice e)) (hu:P.underlying u=some .string) (hs:lesz P e=some 1) (hz:zr P e=some (.int .u8 0)) (hb:byts P e=some 1):
  lbuiltin P .append [t,u] [x,str z] H=lapp P t x (some (z.length,z.map fun b=>Value.int .u8 b.toNat)) H:=by
 have e1:lsrcS P u e 1 (str z)=some (z.length,z.map fun b=>Value.int .u8 b.toNat):=by
  unfold lsrcS str
  simp only [hu,hz,hb,and_self,if_true]
  rw [ba_size]
  rfl
 show lappend P t u x (str z) H=_
 unfold lappend lapp
 simp only [ht,hs,if_neg hne,e1]
 rfl
variable {new:List Value} {s n cp:Nat}
@[simp] theorem lapp_nil (hu:P.underlying t=some (.slice e)) (hs:lesz P e=some s) (hc:new.all cellB=true) (hm:m≠0) (hM:m≤maxElems):lapp P t (.slice none 0 0) (some (m,new)) H=some (sl H.n m m,H.new ⟨new,e,true⟩):=by
 simp only [lapp,hu,hs,hc,hm,hM,if_true,if_false]
@[simp] theorem lapp_nil0 (hu:P.underlying t=some (.slice e)) (hs:lesz P e=some s):lapp P t (.slice none 0 0) (some (0,[])) H=some (.slice none 0 0,H):=by
 simp [lapp,hu,hs]
theorem lapp_grow (hu:P.underlying t=some (.slice e)) (hs:lesz P e=some s) (hc:new.all cellB=true) (hm:m≠0) (hM:n+m≤maxElems) (hb:H.get l=some b) (hrw:b.rw=true) (he:b.elem=e) (hl:b.cells.length=n*s):lapp P t (sl l n n) (some (m,new)) H=some (sl H.n (n+m) (n+m),(H.kill l).new ⟨b.cells++new,e,true⟩):=by
 have h1: ¬n+m≤n:=by omega
 simp only [lapp,hu,hs,hc,hb,if_true]
 rw [if_pos ⟨hrw,he,trivial,hl,Nat.le_refl _⟩,if_neg hm,if_neg h1,if_pos ⟨trivial,hM⟩]
theorem lapp_in (hu:P.underlying t=some (.slice e)) (hs:lesz P e=some s) (hc:new.all cellB=true) (hm:m≠0) (hb:H.get l=some b) (hrw:b.rw=true) (he:b.elem=e) (hl:b.cells.length=cp*s) (hn:n+m≤cp):lapp P t (sl l n cp) (some (m,new)) H=some (sl l (n+m) cp,H.set l { b with cells:=splice b.cells (n*s) new }):=by
 simp only [lapp,hu,hs,hc,hb,if_true]
 rw [if_pos ⟨hrw,he,trivial,hl,by omega⟩,if_neg hm,if_pos hn]
def denseB:List (Nat×Value)→Nat→Bool
 | [],_=>true
 |(i,v)::ps,k=>i==k&&cellB v&&denseB ps (k+1)
@[simp] theorem denseB_nil {k:Nat} :denseB [] k=true:=rfl
@[simp] theorem denseB_cons {k i:Nat} {v:Value} {ps:List (Nat×Value)} :denseB ((i,v)::ps) k=(i==k&&cellB v&&denseB ps (k+1)):=rfl
theorem fill_dense {pl:Nat→Option (Nat×Nat)} : ∀(ps:List (Nat×Value)) (pre post:List Value),(∀j,j<pre.length+ps.length→pl j=some (j,1))→denseB ps pre.length=true→post.length=ps.length→Instr.fill pl (pre++post).toArray ps=some (pre++ps.map Prod.snd).toArray
 | [],pre,post,_,_,h=>by
  have:post= []:=List.length_eq_zero_iff.1 h
  subst this;simp [Instr.fill]
 |(i,v)::ps,pre,post,hp,hd,h=>by
  cases post with
  |nil=>simp at h
  |cons z post=>
  simp only [denseB,Bool.and_eq_true,beq_iff_eq]at hd
  obtain⟨⟨rfl,hv⟩,hd⟩:=hd
  have e1:=cells_one hv
  unfold Instr.fill
  rw [hp _ (by simp)]
  simp only [e1]
  rw [if_neg (by simp)]
  have e2:((#[v]:Array Value).zipIdx.foldl (fun cs (c,j)=>cs.setIfInBounds (pre.length+j) c) (pre++z::post).toArray)=((pre++ [v])++post).toArray:=by
   simp
  rw [e2,fill_dense ps (pre++ [v]) post (fun j hj=>hp j (by simp at hj⊢;omega)) (by simpa using hd) (by simpa using h)]
  simp
theorem dense_known: ∀(ps:List (Nat×Value)) (k:Nat),denseB ps k=true→(ps.all fun p=>knownB p.2)=true
 | [],_,_=>rfl
 |(i,v)::ps,k,h=>by
  simp only [denseB,Bool.and_eq_true,beq_iff_eq]at h
  have:knownB v=true:=by cases v<;>first|rfl|(have:=h.1.2;simp [cellB]at this)
  simp only [List.all_cons,this,dense_known ps _ h.2,Bool.and_self]
@[simp ↓] theorem lopx_buildSlice {ps:List (Nat×Operand)} :lopx P T (.buildSlice t n ⟨ps⟩) fr H=lbuildSlice P t n (ps.map fun p=>(p.1,ev fr p.2)) H:=rfl
theorem lbs_dense {z:Value} {ps:List (Nat×Value)} (hu:P.underlying t=some (.slice e)) (hs:sz P e=some 1) (hz:zr P e=some z) (hf:flatB z=true) (hz1:cellB z=true) (hn:n=ps.length) (hle:n≤65536) (hd:denseB ps 0=true):lbuildSlice P t n ps H=some (sl H.n n n,H.new ⟨ps.map Prod.snd,e,true⟩):=by
 subst hn
 have hk: ∀p∈ps,knownB p.2=true:=by simpa using dense_known ps 0 hd
 unfold lbuildSlice
 simp only [hu,hs,hz]
 rw [if_pos (by
  simp only [Bool.and_eq_true,decide_eq_true_eq,beq_iff_eq,List.all_eq_true]
  exact⟨⟨⟨⟨hf,by omega⟩,by omega⟩,by rw [cells_one hz1];rfl⟩,hk⟩)]
 have e0:((Array.range (ps.length*1)).map fun j=>z.cells[j%z.cells.size]!)=(([]:List Value)++List.replicate ps.length z).toArray:=by
  rw [cells_one hz1]
  apply Array.ext
  ·simp
  ·intro i h1 h2
   simp [Nat.mod_one]
 rw [e0,fill_dense ps [] (List.replicate ps.length z) (fun j _=>by simp) hd (by simp)]
 simp
attribute [simp] lbs_dense
@[simp] theorem lconv_ii {a c:TypeId} {k1 k2:IntKind} {n:Int} (h1:P.underlying a=some (.int k1)) (h2:P.underlying c=some (.int k2)):lconv P a c (.int k1 n) H=some (.int k2 (k2.wrap n)):=by
 have e:pureVal P (convert a c (.int k1 n))=some (.int k2 (k2.wrap n)):=by
  simp only [convert,pureVal_bind,pureVal_und,h1,h2,Option.bind_some]
  rfl
 unfold lconv
 simp only [flat_int,if_true,pureFlat,e]
def lbs:List Value→Option (List UInt8)
 | []=>some []
 |v::l=>(lbyte v).bind fun b=>(lbs l).map (b:: ·)
theorem lbs_eq: ∀l:List Value,l.mapM lbyte=lbs l
 | []=>rfl
 |v::l=>by
  rw [List.mapM_cons,lbs_eq l,lbs]
  cases lbyte v<;>cases lbs l<;>rfl
def bv (x:UInt8):Value:=.int .u8 x.toNat
@[simp] theorem lbyte_bv {x:UInt8} :lbyte (.int .u8 x.toNat)=some x:=by simp [lbyte]
@[simp] theorem lbs_nil:lbs []=some []:=rfl
@[simp] theorem lbs_cons {v:Value} {l:List Value} :lbs (v::l)=(lbyte v).bind fun b=>(lbs l).map (b:: ·):=rfl
@[simp] theorem lbs_map: ∀l:List UInt8,lbs (l.map bv)=some l
 | []=>rfl
 |a::l=>by simp only [List.map_cons,lbs,bv,lbyte_bv,Option.bind_some,lbs_map l,Option.map_some]
theorem lconv_bs {a c e:TypeId} {o n cp:Nat} {z:List UInt8} (h1:P.underlying a=some (.slice e)) (h2:P.underlying c=some .string) (h3:P.underlying e=some (.int .u8)) (hb:H.get l=some b) (hle:o+n≤b.cells.length) (hz:lbs ((b.cells.drop o).take n)=some z):lconv P a c (.slice (some ⟨l,o,none⟩) n cp) H=some (str z):=by
 have e1:flatB (.slice (some ⟨l,o,none⟩) n cp)=false:=by simp [flatB,flat1B,atomB]
 unfold lconv lbstr
 simp only [e1,h1,h2,h3,hb,lcells,if_pos hle,lbs_eq,hz,Option.map_some]
 rfl
def plc (P:Program) (t:TypeId):Option (List (Nat×Nat)):=match P.underlying t with
 |some (.struct fs)=>fs.toList.mapM (fun f=>(P.info? f.type).map fun i=>(f.offset,i.size))
 |_=>none
def plcB (P:Program) (t:TypeId):Bool:=(plc P t).isSome
def lfill (P:Program) (t:TypeId) (cs:List Value) (ps:List (Nat×Value)):Option (List Value):=match plc P t with
 |some pl=>(Instr.fill (pl.toArray[·]?) cs.toArray ps).map Array.toList
 |none=>none
theorem mapM_get {α β:Type} {f:α→Option β} : ∀ {l:List α} {r:List β},l.mapM f=some r→ ∀(i:Nat) x,l[i]?=some x→r[i]?=f x
 | [],r,h,i,x,hx=>by simp at hx
 |a::l,r,h,i,x,hx=>by
  simp only [List.mapM_cons,Option.bind_eq_bind,Option.pure_def]at h
  cases ha:f a with
  |none=>simp [ha]at h
  |some y=>
   simp only [ha,Option.bind_some]at h
   cases hl:l.mapM f with
   |none=>simp [hl]at h
   |some ys=>
    simp only [hl,Option.bind_some,Option.some.injEq]at h
    subst h
    cases i with
    |zero=>simp at hx;subst hx;simp [ha]
    |succ i=>simpa using mapM_get hl i x (by simpa using hx)
theorem plc_get {pl:List (Nat×Nat)} (hp:plc P t=some pl) {i o n:Nat} {g:Bool} (hf:fldi P t i=some (o,n,g)):pl[i]?=some (o,n):=by
 unfold fldi at hf
 unfold plc at hp
 split at hf
 ·rename_i fs hu
  rw [hu]at hp
  split at hf
  ·rename_i fd hfd
   split at hf
   ·rename_i n' g' hs ha
    simp only [Option.some.injEq,Prod.mk.injEq]at hf
    obtain⟨rfl,rfl,rfl⟩:=hf
    rw [mapM_get hp i fd (by simpa using hfd)]
    unfold sz at hs
    cases hi:P.info? fd.type with
    |none=>simp [hi]at hs
    |some it=>simp [hi]at hs;simp [hs]
   ·cases hf
  ·cases hf
 ·cases hf
@[simp] theorem lfill_nil {cs:List Value} (h:plcB P t=true):lfill P t cs []=some cs:=by
 unfold plcB at h
 unfold lfill
 cases hp:plc P t with
 |none=>simp [hp]at h
 |some pl=>rfl
theorem fold_splice: ∀(vs:List Value) (pre cs:List Value) (off:Nat),off+pre.length+vs.length≤cs.length→(vs.toArray.zipIdx pre.length).foldl (fun cs (c,j)=>cs.setIfInBounds (off+j) c) cs.toArray=(splice cs (off+pre.length) vs).toArray
 | [],pre,cs,off,h=>by
  rw [show(([]:List Value).toArray.zipIdx pre.length)=#[] from by apply Array.ext<;>simp]
  simp [splice]
 |v::vs,pre,cs,off,h=>by
  have hh:off+pre.length<cs.length:=by simp at h;omega
  have ih:=fold_splice vs (pre++ [v]) (cs.set (off+pre.length) v) off (by simp at h⊢;omega)
  have e:(v::vs).toArray.zipIdx pre.length=((v,pre.length)::(vs.zipIdx (pre.length+1))).toArray:=by simp
  rw [e]
  have e2:(vs.toArray.zipIdx (pre++ [v]).length)=(vs.zipIdx (pre.length+1)).toArray:=by simp
  rw [e2]at ih
  simp only [List.foldl_toArray',List.size_toArray,List.foldl_cons,List.setIfInBounds_toArray]at ih⊢
  rw [ih]
  congr 1
  unfold splice
  simp only [List.length_append,List.length_cons,List.length_nil,Nat.zero_add,←Nat.add_assoc]
  rw [List.take_set,List.drop_set,if_pos (by omega)]
  have e3:(cs.take (off+pre.length+1)).set (off+pre.length) v=cs.take (off+pre.length)++ [v]:=by
   rw [List.take_succ_eq_append_getElem hh,List.set_append,if_neg (by simp;omega)]
   simp [Nat.min_eq_left (Nat.le_of_lt hh)]
  rw [e3]
  simp [Nat.add_assoc,Nat.add_comm,Nat.add_left_comm]
theorem lfill_step {cs:List Value} {i o n:Nat} {g:Bool} {v:Value} {ps:List (Nat×Value)} (hf:fldi P t i=some (o,n,g)) (hn:v.cells.toList.length=n) (ho:o+n≤cs.length):lfill P t cs ((i,v)::ps)=lfill P t (splice cs o v.cells.toList) ps:=by
 unfold lfill
 cases hp:plc P t with
 |none=>rfl
 |some pl=>
  have h1:pl.toArray[i]?=some (o,n):=by simpa using plc_get hp hf
  simp only [Instr.fill,h1]
  rw [if_neg (by simp at hn⊢;omega)]
  have:=fold_splice v.cells.toList [] cs o (by simp at hn⊢;omega)
  simp only [List.length_nil,Nat.add_zero,Array.toArray_toList]at this
  rw [this]
@[simp] theorem lfill_cell {cs:List Value} {i o n:Nat} {g:Bool} {v:Value} {ps:List (Nat×Value)} (hf:fldi P t i=some (o,n,g)) (hn:n=1) (hv:cellB v=true) (ho:o<cs.length):lfill P t cs ((i,v)::ps)=lfill P t (cs.set o v) ps:=by
 subst hn
 rw [lfill_step hf (by rw [cells_one hv];rfl) (by omega)]
 congr 1
 rw [cells_one hv]
 unfold splice
 rw [List.set_eq_take_append_cons_drop,if_pos ho];simp
@[simp] theorem lfill_agg {cs vs:List Value} {i o n:Nat} {g:Bool} {ps:List (Nat×Value)} (hf:fldi P t i=some (o,n,g)) (hn:vs.length=n) (ho:o+n≤cs.length):lfill P t cs ((i,.agg ⟨vs⟩)::ps)=lfill P t (splice cs o vs) ps:=
 lfill_step hf hn ho
def lbE (P:Program) (t:TypeId) (z:Option Value) (ps:List (Nat×Value)):Option Value:=
 match z with
 |some z=>if ps.all (fun p=>knownB p.2)&&flatB z then(lfill P t z.cells.toList ps).map fun cs=>.agg ⟨cs⟩else none
 |none=>none
theorem lbuild_eq {ps:List (Nat×Value)} :lbuild P t ps=lbE P t (zr P t) ps:=by
 unfold lbuild lbE zr lfill plc
 cases hi:P.info? t with
 |none=>simp
 |some it=>
  simp only [Option.bind_some]
  have hz:it.zero=none∨ ∃z,it.zero=some z:=by cases it.zero<;>simp
  rcases hz with hz|⟨z,hz⟩
  ·simp [hz]
  ·simp only [hz,Option.any_some]
   split
   ·cases hu:P.underlying t with
    |none=>rfl
    |some u=>
     cases u<;>try rfl
     rename_i fs
     simp only [Program.built,hi,hu,hz]
     cases fs.toList.mapM (fun f=>(P.info? f.type).map fun i=>(f.offset,i.size))with
     |none=>rfl
     |some pl=>
      simp only [Array.toArray_toList]
      cases Instr.fill (pl.toArray[·]?) z.cells ps with
      |none=>rfl
      |some cs=>rfl
   ·rfl
@[simp ↓] theorem lopx_build {ps:List (Nat×Operand)} :lopx P T (.build t ⟨ps⟩) fr H=withH (lbE P t (zr P t) (ps.map fun p=>(p.1,ev fr p.2))) H:=by
 rw [←lbuild_eq];rfl
def knownL:List (Nat×Value)→Bool
 | []=>true
 |(_,v)::ps=>knownB v&&knownL ps
@[simp] theorem knownL_nil:knownL []=true:=rfl
@[simp] theorem knownL_cons {i:Nat} {v:Value} {ps:List (Nat×Value)} :knownL ((i,v)::ps)=(knownB v&&knownL ps):=rfl
theorem known_of_cell {v:Value} (h:cellB v=true):knownB v=true:=by cases v<;>first|rfl|(simp [cellB]at h)
attribute [simp] known_of_cell
@[simp] theorem known_agg {a:Array Value} :knownB (.agg a)=true:=rfl
theorem knownL_eq: ∀(ps:List (Nat×Value)),ps.all (fun p=>knownB p.2)=knownL ps
 | []=>rfl
 |(i,v)::ps=>by simp only [List.all_cons,knownL,knownL_eq ps]
theorem lbE_agg {z:List Value} {ps:List (Nat×Value)} (hk:knownL ps=true) (hz:z.all atomB=true):lbE P t (some (.agg ⟨z⟩)) ps=(lfill P t z ps).map fun cs=>.agg ⟨cs⟩:=by
 have:flatB (.agg ⟨z⟩)=true:=hz
 simp only [lbE,knownL_eq,hk,this,Bool.and_self,if_true,Value.cells]
attribute [simp] lbE_agg
def lfld (i:Option (Nat×Nat×Bool)) (x:Value):Option Value:=match i,x with
 |some (o,n,true),.agg cs=>some (.agg (cs.extract o (o+n)))
 |some (o,_,false),.agg cs=>cs[o]?
 |_,_=>none
theorem lopx_field {x:Operand} {f:Nat} {i:Nat×Nat×Bool} (h:fldi P t f=some i):lopx P T (.field t x f) fr H=withH (lfld (some i) (ev fr x)) H:=by
 unfold fldi at h
 show(match P.underlying t,ev fr x with|some (.struct fs),.agg cs=>_|_,_=>none)=_
 split at h
 ·rename_i fs hu
  split at h
  ·rename_i fd hf
   split at h
   ·rename_i n g hs ha
    injection h with h
    subst h
    rw [hu]
    unfold lfld
    cases ev fr x<;>cases g<;>simp only [hf,hs,ha,withH,Option.map_some,Option.map_none]
   ·cases h
  ·cases h
 ·cases h
attribute [simp] lopx_field
@[simp] theorem lfld_cell {o n:Nat} {cs:List Value} :lfld (some (o,n,false)) (.agg ⟨cs⟩)=cs[o]?:=by simp [lfld]
@[simp] theorem lfld_agg {o n:Nat} {cs:List Value} :lfld (some (o,n,true)) (.agg ⟨cs⟩)=some (.agg ⟨(cs.drop o).take n⟩):=by simp [lfld]
@[simp] theorem lbin_pe {a:Option Addr} (hu:P.underlying t=some (.pointer e)):lbin P .eql t (.pointer a) (.pointer none)=some (.bool a.isNone):=by
 cases a<;>simp [lbin,hu]
@[simp] theorem lbin_pn {a:Option Addr} (hu:P.underlying t=some (.pointer e)):lbin P .neq t (.pointer a) (.pointer none)=some (.bool (!a.isNone)):=by
 cases a<;>simp [lbin,hu]
@[simp] theorem lbin_se {a:Option Addr} {n c:Nat} (hu:P.underlying t=some (.slice e)):lbin P .eql t (.slice a n c) (.slice none 0 0)=some (.bool a.isNone):=by
 cases a<;>simp [lbin,hu]
@[simp] theorem lbin_sn {a:Option Addr} {n c:Nat} (hu:P.underlying t=some (.slice e)):lbin P .neq t (.slice a n c) (.slice none 0 0)=some (.bool (!a.isNone)):=by
 cases a<;>simp [lbin,hu]
@[simp] theorem lbuiltin_max {ts:List TypeId} {k k':IntKind} {a b:Int} :lbuiltin P .max ts [.int k a,.int k' b] H=some (.int k (if a<b then b else a),H):=rfl
@[simp] theorem lbuiltin_min {ts:List TypeId} {k k':IntKind} {a b:Int} :lbuiltin P .min ts [.int k a,.int k' b] H=some (.int k (if b<a then b else a),H):=rfl
theorem trunc_set {v:Value} (h:H.get l=some b) (hl:l<H.n):trunc H (v,H.set l c)=(v,H.set l c):=by
 unfold trunc
 split
 ·rename_i hc
  have:=hc.2.2 l hl
  simp only [get_set,h,Option.some.injEq]at this
  have e:H.set l c=H:=by
   cases H with
   |mk n g ho w0 ng=>
    simp only [LH.set,LH.mk.injEq,true_and,and_true]
    funext k
    split
    ·rename_i e;subst e;rw [this];exact h.symm
    ·rfl
  rw [e]
 ·rfl
theorem trunc_or (v:Value) (H H':LH):trunc H (v,H')=(v,H')∨trunc H (v,H')=(v,H)∧flatB v=true∧H.le H':=by
 unfold trunc
 split
 ·exact .inr ⟨rfl,by assumption⟩
 ·exact .inl rfl
end
abbrev PQ:=Res→LH→Option Code→Prop
def PR (P:Program) (E:PEnv) (Y:Option YC) (rd:Nat) (fn:Func) (k:List Item) (fr:Fr) (H:LH) (p:Option Code) (Q:PQ):Prop:= ∃r H' p',R P E (.run Y rd fn k fr H p r H' p')∧Q r H' p'
def PO (P:Program) (E:PEnv) (Y:Option YC) (rd:Nat) (fn:Func) (all:Array Oper) (os:List Oper) (k:List Item) (fr:Fr) (H:LH) (p:Option Code) (Q:PQ):Prop:= ∃r H' p',R P E (.ops Y rd fn all os k fr H p r H' p')∧Q r H' p'
def PStep (P:Program) (E:PEnv) (Y:Option YC) (rd:Nat) (fn:Func) (x:Option (Value×LH)) (d:Nat) (all:Array Oper) (os:List Oper) (k:List Item) (fr:Fr) (p:Option Code) (Q:PQ):Prop:=
 match x with
 |some (v,H)=>d<fn.ntmps∧PO P E Y rd fn all os k (upd fr d v) H p Q
 |none=>False
def PStep0 (P:Program) (E:PEnv) (Y:Option YC) (rd:Nat) (fn:Func) (x:Option (Value×LH)) (all:Array Oper) (os:List Oper) (k:List Item) (fr:Fr) (p:Option Code) (Q:PQ):Prop:=
 match x with
 |some (_,H)=>PO P E Y rd fn all os k fr H p Q
 |none=>False
def PHand (P:Program) (E:PEnv) (Y:Option YC) (rd:Nat) (fn:Func) (all:Array Oper) (os:List Oper) (k:List Item) (fr:Fr) (H:LH) (p:Option Code) (Q:PQ):Prop:=PO P E Y rd fn all os k fr H p Q
def PRes (x:Option Value) (H:LH) (p:Option Code) (Q:PQ):Prop:=match x with|some v=>Q (.ret v) H p|none=>False
def PCond (P:Program) (E:PEnv) (Y:Option YC) (rd:Nat) (fn:Func) (c:Value) (x y:Code) (k:List Item) (fr:Fr) (H:LH) (p:Option Code) (Q:PQ):Prop:=
 match c with
 |.bool t=>if t=true then PR P E Y rd fn (.code x::k) fr H p Q else PR P E Y rd fn (.code y::k) fr H p Q
 |_=>False
def isClear:Builtin→Bool
 |.clear=>true
 |_=>false
def handB (E:PEnv) (fr:Fr) (op:Op):Bool:=match op with
 |.call c=>match c.callee with
  |.builtin b=>isClear b
  |.value x=>match ev fr x with
   |.func (.func g) _ _=>E.ps g
   |.func (.yield _) _ _=>true
   |_=>false
  |_=>false
 |.makeFunc _ first _=>first.size !=0
 |_=>false
def PG (P:Program) (E:PEnv) (Y:Option YC) (rd:Nat) (fn:Func) (g:Option Bool) (op:Op) (d:Nat) (all:Array Oper) (o:Oper) (os:List Oper) (k:List Item) (fr:Fr) (H:LH) (p:Option Code) (Q:PQ):Prop:=
 match g with
 |some true=>RSel (handB E fr op) (PHand P E Y rd fn all (o::os) k fr H p Q) (PStep P E Y rd fn (lopxB P (LC P E.E) op fr H) d all os k fr p Q)
 |some false=>d<fn.ntmps∧PO P E Y rd fn all os k (upd fr d undef) H p Q
 |none=>False
section
variable {P:Program} {E:PEnv} {Y:Option YC} {rd:Nat} {fn:Func} {k:List Item} {fr:Fr} {H H' H0:LH} {p:Option Code} {Q:PQ} {all:Array Oper} {os:List Oper} {d:Nat} {op:Op} {ty:TypeId} {pos:String} {after:Array Edge} {v:Value}
theorem pr_skip:PR P E Y rd fn (.code .skip::k) fr H p Q↔PR P E Y rd fn k fr H p Q:=⟨fun⟨r,H',p',h,q⟩=>by cases h;exact⟨_,_,_,‹_›,q⟩,fun⟨r,H',p',h,q⟩=>⟨_,_,_,.skip h,q⟩⟩
theorem pr_label {l:Nat} :PR P E Y rd fn (.code (.label l)::k) fr H p Q↔PR P E Y rd fn k fr H p Q:=⟨fun⟨r,H',p',h,q⟩=>by cases h;exact⟨_,_,_,‹_›,q⟩,fun⟨r,H',p',h,q⟩=>⟨_,_,_,.label h,q⟩⟩
theorem pr_inBlock {l:Nat} :PR P E Y rd fn (.inBlock l::k) fr H p Q↔PR P E Y rd fn k fr H p Q:=⟨fun⟨r,H',p',h,q⟩=>by cases h;exact⟨_,_,_,‹_›,q⟩,fun⟨r,H',p',h,q⟩=>⟨_,_,_,.inBlock h,q⟩⟩
theorem pr_inScope {c:Code} :PR P E Y rd fn (.inScope c::k) fr H p Q↔PR P E Y rd fn k fr H p Q:=⟨fun⟨r,H',p',h,q⟩=>by cases h;exact⟨_,_,_,‹_›,q⟩,fun⟨r,H',p',h,q⟩=>⟨_,_,_,.inScope h,q⟩⟩
theorem pr_seq {a b:Code} :PR P E Y rd fn (.code (.seq a b)::k) fr H p Q↔PR P E Y rd fn (.code a::.code b::k) fr H p Q:=⟨fun⟨r,H',p',h,q⟩=>by cases h;exact⟨_,_,_,‹_›,q⟩,fun⟨r,H',p',h,q⟩=>⟨_,_,_,.seq h,q⟩⟩
theorem pr_block {id:Nat} {c:Code} :PR P E Y rd fn (.code (.block id c)::k) fr H p Q↔PR P E Y rd fn (.code c::.inBlock id::k) fr H p Q:=⟨fun⟨r,H',p',h,q⟩=>by cases h;exact⟨_,_,_,‹_›,q⟩,fun⟨r,H',p',h,q⟩=>⟨_,_,_,.block h,q⟩⟩
theorem pr_scope {c:Code} :PR P E Y rd fn (.code (.scope c)::k) fr H p Q↔PR P E Y rd fn (.code c::.inScope c::k) fr H p Q:=⟨fun⟨r,H',p',h,q⟩=>by cases h;exact⟨_,_,_,‹_›,q⟩,fun⟨r,H',p',h,q⟩=>⟨_,_,_,.scope h,q⟩⟩
theorem pr_loop {c:Code} :PR P E Y rd fn (.code (.loop c)::k) fr H p Q↔PR P E Y rd fn (.inLoop c::k) fr H p Q:=⟨fun⟨r,H',p',h,q⟩=>by cases h;exact⟨_,_,_,.inLoop ‹_›,q⟩,fun⟨r,H',p',h,q⟩=>by cases h;exact⟨_,_,_,.loop ‹_›,q⟩⟩
theorem pr_inLoop {c:Code} :PR P E Y rd fn (.inLoop c::k) fr H p Q↔PR P E Y rd fn (.code c::.inLoop c::k) fr H p Q:=⟨fun⟨r,H',p',h,q⟩=>by cases h;exact⟨_,_,_,‹_›,q⟩,fun⟨r,H',p',h,q⟩=>⟨_,_,_,.inLoop h,q⟩⟩
def PExit (P:Program) (E:PEnv) (Y:Option YC) (rd:Nat) (fn:Func) (id:Nat) (x:Option (List Item)) (fr:Fr) (H:LH) (p:Option Code) (Q:PQ):Prop:=
 match x with
 |some k=>PR P E Y rd fn k fr H p Q
 |none=>Y=none∧rd=2∧p=none∧Q (.jump (some (.exit id))) H none
@[congr] theorem pexit_congr {id:Nat} {x y:Option (List Item)} (h:x=y):PExit P E Y rd fn id x fr H p Q=PExit P E Y rd fn id y fr H p Q:=by rw [h]
@[simp] theorem pexit_some {id:Nat} :PExit P E Y rd fn id (some k) fr H p Q↔PR P E Y rd fn k fr H p Q:=Iff.rfl
@[simp] theorem pexit_none {id:Nat} :PExit P E none 2 fn id none fr H none Q↔Q (.jump (some (.exit id))) H none:=by simp [PExit]
theorem pr_exit {id:Nat} :PR P E Y rd fn (.code (.exit id)::k) fr H p Q↔PExit P E Y rd fn id (exitTo id k) fr H p Q:=by
 constructor
 ·rintro⟨r,H',p',h,q⟩
  cases h with
  |exit1 hx=>rw [hx];exact⟨rfl,rfl,rfl,q⟩
  |exit hx h=>rw [hx];exact⟨_,_,_,h,q⟩
 ·intro h
  cases hx:exitTo id k with
  |none=>rw [hx]at h;obtain⟨rfl,rfl,rfl,q⟩:=h;exact⟨_,_,_,.exit1 hx,q⟩
  |some k'=>rw [hx]at h;obtain⟨r,H',p',h,q⟩:=h;exact⟨_,_,_,.exit hx h,q⟩
def PGoto (P:Program) (E:PEnv) (Y:Option YC) (rd:Nat) (fn:Func) (x:Option (List Item)) (fr:Fr) (H:LH) (p:Option Code) (Q:PQ):Prop:=
 match x with
 |some k=>PR P E Y rd fn k fr H p Q
 |none=>False
@[congr] theorem pgoto_congr {x y:Option (List Item)} (h:x=y):PGoto P E Y rd fn x fr H p Q=PGoto P E Y rd fn y fr H p Q:=by rw [h]
@[simp] theorem pgoto_some:PGoto P E Y rd fn (some k) fr H p Q↔PR P E Y rd fn k fr H p Q:=Iff.rfl
theorem pr_goto {id:Nat} :PR P E Y rd fn (.code (.goto id)::k) fr H p Q↔PGoto P E Y rd fn (gotoIn id k) fr H p Q:=by
 constructor
 ·rintro⟨r,H',p',h,q⟩
  cases h with
  |goto hx h=>rw [hx];exact⟨_,_,_,h,q⟩
 ·intro h
  cases hx:gotoIn id k with
  |none=>rw [hx]at h;exact h.elim
  |some k'=>rw [hx]at h;obtain⟨r,H',p',h,q⟩:=h;exact⟨_,_,_,.goto hx h,q⟩
theorem pr_nil:PR P E Y 0 fn [] fr H p Q↔PRes (lresults P fn fr H) H p Q:=by
 constructor
 ·rintro⟨r,H',p',h,q⟩
  cases h with
  |nil0 hx=>rw [hx];exact q
 ·intro h
  cases hx:lresults P fn fr H with
  |none=>rw [hx]at h;exact h.elim
  |some v=>rw [hx]at h;exact⟨_,_,_,.nil0 hx,h⟩
theorem pr_ret:PR P E Y 0 fn (.code .ret::k) fr H p Q↔PRes (lresults P fn fr H) H p Q:=by
 constructor
 ·rintro⟨r,H',p',h,q⟩
  cases h with
  |ret0 hx=>rw [hx];exact q
 ·intro h
  cases hx:lresults P fn fr H with
  |none=>rw [hx]at h;exact h.elim
  |some v=>rw [hx]at h;exact⟨_,_,_,.ret0 hx,h⟩
theorem pr_nil2:PR P E none 2 fn [] fr H none Q↔Q (.jump none) H none:=⟨fun⟨r,H',p',h,q⟩=>by cases h;exact q,fun h=>⟨_,_,_,.nil1,h⟩⟩
theorem pr_ret2:PR P E none 2 fn (.code .ret::k) fr H none Q↔Q (.jump (some .ret)) H none:=⟨fun⟨r,H',p',h,q⟩=>by cases h;exact q,fun h=>⟨_,_,_,.ret1,h⟩⟩
theorem pr_cond {c:Operand} {x y:Code} :PR P E Y rd fn (.code (.cond c x y)::k) fr H p Q↔PCond P E Y rd fn (ev fr c) x y k fr H p Q:=by
 constructor
 ·rintro⟨r,H',p',h,q⟩
  cases h with
  |@cond _ _ _ _ _ _ _ _ _ _ _ _ _ t hc h=>
   rw [hc]
   unfold PCond
   cases t with
   |true=>simp only [if_true];exact⟨_,_,_,h,q⟩
   |false=>simp only [Bool.false_eq_true,if_false];exact⟨_,_,_,h,q⟩
 ·intro h
  unfold PCond at h
  split at h
  ·rename_i t hc
   cases t with
   |true=>simp only [if_true]at h;obtain⟨r,H',p',h,q⟩:=h;exact⟨_,_,_,.cond hc h,q⟩
   |false=>simp only [Bool.false_eq_true,if_false]at h;obtain⟨r,H',p',h,q⟩:=h;exact⟨_,_,_,.cond hc h,q⟩
  ·exact h.elim
theorem pr_region {id:Nat} {l:List Oper} :PR P E Y rd fn (.code (.region id ⟨l⟩ false)::k) fr H p Q↔PO P E Y rd fn ⟨l⟩ l k fr H p Q:=⟨fun⟨r,H',p',h,q⟩=>by cases h;exact⟨_,_,_,‹_›,q⟩,fun⟨r,H',p',h,q⟩=>⟨_,_,_,.region h,q⟩⟩
theorem po_nil:PO P E Y rd fn all [] k fr H p Q↔PR P E Y rd fn k fr H p Q:=⟨fun⟨r,H',p',h,q⟩=>by cases h;exact⟨_,_,_,‹_›,q⟩,fun⟨r,H',p',h,q⟩=>⟨_,_,_,.onil h,q⟩⟩
theorem hand_ps (h:handB E fr op=false):psOf E fr op=false:=by
 unfold handB at h
 unfold psOf
 split
 ·rename_i c
  simp only at h⊢
  split
  ·rename_i x hx
   rw [hx]at h
   simp only at h⊢
   split
   ·rename_i g _ _ hg
    rw [hg]at h;exact h
   ·rfl
  ·rfl
 ·rfl
theorem po_plain {o:Oper} (hh:handB E fr o.op=false) (hw:lwant all fr o=some true):PO P E Y rd fn all (o::os) k fr H p Q↔ ∃v H1 fr1,lopB P (LC P E.E) o fr H=some (v,H1)∧lput fn.ntmps fr o.dst v=some fr1∧PO P E Y rd fn all os k fr1 H1 p Q:=by
 constructor
 ·rintro⟨r,H',p',h,q⟩
  cases h with
  |oskip h1 _ _=>rw [hw]at h1;cases h1
  |oplain _ _ h1 h2 h3=>exact⟨_,_,_,h1,h2,_,_,_,h3,q⟩
  |omkf _ h1 h2 _ _=>rw [h1]at hh;simp [handB,h2]at hh
  |oclear _ h1 _ _ _=>rw [h1]at hh;simp [handB,isClear]at hh
  |ocall _ h1 h2 h3 _ _ _=>rw [h1]at hh;simp [handB,h2,h3]at hh
  |ocallp _ h1 h2 h3 _=>rw [h1]at hh;simp [handB,h2,h3]at hh
  |oyield _ h1 h2 _ _ _ _ _=>rw [h1]at hh;simp [handB,h2,tok]at hh
 ·rintro⟨v,H1,fr1,h1,h2,r,H',p',h3,q⟩
  exact⟨_,_,_,.oplain hw (hand_ps hh) h1 h2 h3,q⟩
theorem po_cons:PO P E Y rd fn all (⟨some d,op,ty,pos,after,none⟩::os) k fr H p Q↔RSel (handB E fr op) (PHand P E Y rd fn all (⟨some d,op,ty,pos,after,none⟩::os) k fr H p Q) (PStep P E Y rd fn (lopxB P (LC P E.E) op fr H) d all os k fr p Q):=by
 cases hh:handB E fr op with
 |true=>exact Iff.rfl
 |false=>
  rw [po_plain hh rfl]
  unfold RSel PStep
  simp only [lopB_x,lput]
  cases lopxB P (LC P E.E) op fr H with
  |none=>simp
  |some x=>
   obtain⟨u,H1⟩:=x
   by_cases hd:d<fn.ntmps
   ·simp [hd]
    exact⟨fun⟨_,_,⟨e1,e2⟩,h⟩=>by subst e1 e2;exact h,fun h=>⟨_,_,⟨rfl,rfl⟩,h⟩⟩
   ·simp [hd]
theorem po_cons0:PO P E Y rd fn all (⟨none,op,ty,pos,after,none⟩::os) k fr H p Q↔RSel (handB E fr op) (PHand P E Y rd fn all (⟨none,op,ty,pos,after,none⟩::os) k fr H p Q) (PStep0 P E Y rd fn (lopxB P (LC P E.E) op fr H) all os k fr p Q):=by
 cases hh:handB E fr op with
 |true=>exact Iff.rfl
 |false=>
  rw [po_plain hh rfl]
  unfold RSel PStep0
  simp only [lopB_x,lput]
  cases lopxB P (LC P E.E) op fr H with
  |none=>simp
  |some x=>
   obtain⟨u,H1⟩:=x
   simp
   exact⟨fun⟨_,_,⟨e1,e2⟩,h⟩=>by subst e1 e2;exact h,fun h=>⟨_,_,⟨rfl,rfl⟩,h⟩⟩
theorem po_guard {j:Nat} {want:Bool} :PO P E Y rd fn all (⟨some d,op,ty,pos,after,some (j,want)⟩::os) k fr H p Q↔PG P E Y rd fn (guardx all fr j want) op d all ⟨some d,op,ty,pos,after,some (j,want)⟩ os k fr H p Q:=by
 unfold PG
 cases hg:guardx all fr j want with
 |none=>
  simp only [iff_false]
  rintro⟨r,H',p',h,q⟩
  have hw:lwant all fr ⟨some d,op,ty,pos,after,some (j,want)⟩=none:=by rw [lwant_x];exact hg
  cases h with
  |oskip h1 _ _=>rw [hw]at h1;cases h1
  |oplain h1 _ _ _ _=>rw [hw]at h1;cases h1
  |omkf h1 _ _ _ _=>rw [hw]at h1;cases h1
  |oclear h1 _ _ _ _=>rw [hw]at h1;cases h1
  |ocall h1 _ _ _ _ _ _=>rw [hw]at h1;cases h1
  |ocallp h1 _ _ _ _=>rw [hw]at h1;cases h1
  |oyield h1 _ _ _ _ _ _ _=>rw [hw]at h1;cases h1
 |some b=>
  have hw:lwant all fr ⟨some d,op,ty,pos,after,some (j,want)⟩=some b:=by rw [lwant_x];exact hg
  cases b with
  |true=>
   cases hh:handB E fr op with
   |true=>exact Iff.rfl
   |false=>
    rw [po_plain hh hw]
    unfold RSel PStep
    simp only [lopB_x,lput]
    cases lopxB P (LC P E.E) op fr H with
    |none=>simp
    |some x=>
     obtain⟨u,H1⟩:=x
     by_cases hd:d<fn.ntmps
     ·simp [hd]
      exact⟨fun⟨_,_,⟨e1,e2⟩,h⟩=>by subst e1 e2;exact h,fun h=>⟨_,_,⟨rfl,rfl⟩,h⟩⟩
     ·simp [hd]
  |false=>
   simp only
   constructor
   ·rintro⟨r,H',p',h,q⟩
    cases h with
    |oskip h1 h2 h3=>
     simp only [lput]at h2
     split at h2
     ·rename_i hd;injection h2 with h2;subst h2;exact⟨hd,_,_,_,h3,q⟩
     ·cases h2
    |oplain h1 _ _ _ _=>rw [hw]at h1;cases h1
    |omkf h1 _ _ _ _=>rw [hw]at h1;cases h1
    |oclear h1 _ _ _ _=>rw [hw]at h1;cases h1
    |ocall h1 _ _ _ _ _ _=>rw [hw]at h1;cases h1
    |ocallp h1 _ _ _ _=>rw [hw]at h1;cases h1
    |oyield h1 _ _ _ _ _ _ _=>rw [hw]at h1;cases h1
   ·rintro⟨hd,r,H',p',h,q⟩
    exact⟨_,_,_,.oskip hw (by simp only [lput];rw [if_pos hd]) h,q⟩
attribute [simp ↓] pr_skip pr_label pr_seq pr_block pr_inBlock pr_inScope pr_scope pr_region pr_exit pr_goto pr_cond po_nil po_cons po_cons0 po_guard
attribute [simp] pr_nil pr_ret pr_nil2 pr_ret2
@[congr] theorem pstep_congr {x y:Option (Value×LH)} (h:x=y):PStep P E Y rd fn x d all os k fr p Q=PStep P E Y rd fn y d all os k fr p Q:=by rw [h]
@[congr] theorem pstep0_congr {x y:Option (Value×LH)} (h:x=y):PStep0 P E Y rd fn x all os k fr p Q=PStep0 P E Y rd fn y all os k fr p Q:=by rw [h]
@[congr] theorem pcond_congr {c c':Value} {x y:Code} (h:c=c'):PCond P E Y rd fn c x y k fr H p Q=PCond P E Y rd fn c' x y k fr H p Q:=by rw [h]
@[congr] theorem pres_congr {x y:Option Value} (h:x=y):PRes x H p Q=PRes y H p Q:=by rw [h]
@[congr] theorem pg_congr {x y:Option Bool} {o:Oper} (h:x=y):PG P E Y rd fn x op d all o os k fr H p Q=PG P E Y rd fn y op d all o os k fr H p Q:=by rw [h]
@[congr] theorem phand_congr:PHand P E Y rd fn all os k fr H p Q=PHand P E Y rd fn all os k fr H p Q:=rfl
@[simp] theorem pstep_some:PStep P E Y rd fn (some (v,H)) d all os k fr p Q↔d<fn.ntmps∧PO P E Y rd fn all os k (upd fr d v) H p Q:=Iff.rfl
@[simp] theorem pstep_none:PStep P E Y rd fn none d all os k fr p Q↔False:=Iff.rfl
@[simp] theorem pstep0_some:PStep0 P E Y rd fn (some (v,H)) all os k fr p Q↔PO P E Y rd fn all os k fr H p Q:=Iff.rfl
@[simp] theorem pstep0_none:PStep0 P E Y rd fn none all os k fr p Q↔False:=Iff.rfl
@[simp] theorem pcond_true {x y:Code} :PCond P E Y rd fn (.bool true) x y k fr H p Q↔PR P E Y rd fn (.code x::k) fr H p Q:=by simp [PCond]
@[simp] theorem pcond_false {x y:Code} :PCond P E Y rd fn (.bool false) x y k fr H p Q↔PR P E Y rd fn (.code y::k) fr H p Q:=by simp [PCond]
@[simp] theorem pres_some:PRes (some v) H p Q↔Q (.ret v) H p:=Iff.rfl
@[simp] theorem pres_none:PRes none H p Q↔False:=Iff.rfl
@[simp] theorem pg_true {o:Oper} :PG P E Y rd fn (some true) op d all o os k fr H p Q↔RSel (handB E fr op) (PHand P E Y rd fn all (o::os) k fr H p Q) (PStep P E Y rd fn (lopxB P (LC P E.E) op fr H) d all os k fr p Q):=Iff.rfl
@[simp] theorem pg_false {o:Oper} :PG P E Y rd fn (some false) op d all o os k fr H p Q↔d<fn.ntmps∧PO P E Y rd fn all os k (upd fr d undef) H p Q:=Iff.rfl
@[simp ↓] theorem hand_move {x:Operand} :handB E fr (.move x)=false:=rfl
@[simp ↓] theorem hand_assign {x:Operand} :handB E fr (.assign x)=false:=rfl
@[simp ↓] theorem hand_pick {c x y:Operand} :handB E fr (.pick c x y)=false:=rfl
@[simp ↓] theorem hand_alloc {t:TypeId} :handB E fr (.alloc t)=false:=rfl
@[simp ↓] theorem hand_box {t:TypeId} {x:Operand} :handB E fr (.box t x)=false:=rfl
@[simp ↓] theorem hand_load {t:TypeId} {x:Operand} :handB E fr (.load t x)=false:=rfl
@[simp ↓] theorem hand_store {t:TypeId} {x y:Operand} :handB E fr (.store t x y)=false:=rfl
@[simp ↓] theorem hand_nilCheck {x:Operand} :handB E fr (.nilCheck x)=false:=rfl
@[simp ↓] theorem hand_fieldAddr {t:TypeId} {x:Operand} {f:Nat} :handB E fr (.fieldAddr t x f)=false:=rfl
@[simp ↓] theorem hand_indexAddr {t:TypeId} {x i:Operand} :handB E fr (.indexAddr t x i)=false:=rfl
@[simp ↓] theorem hand_slice {t:TypeId} {x:Operand} {lo hi mx:Option Operand} :handB E fr (.slice t x lo hi mx)=false:=rfl
@[simp ↓] theorem hand_field {t:TypeId} {x:Operand} {f:Nat} :handB E fr (.field t x f)=false:=rfl
@[simp ↓] theorem hand_extract {x:Operand} {f:Nat} :handB E fr (.extract x f)=false:=rfl
@[simp ↓] theorem hand_build {t:TypeId} {ps:Array (Nat×Operand)} :handB E fr (.build t ps)=false:=rfl
@[simp ↓] theorem hand_buildSlice {t:TypeId} {n:Nat} {ps:Array (Nat×Operand)} :handB E fr (.buildSlice t n ps)=false:=rfl
@[simp ↓] theorem hand_makeSlice {t:TypeId} {x y:Operand} :handB E fr (.makeSlice t x y)=false:=rfl
@[simp ↓] theorem hand_makeFunc0 {f:Fn} {c:Array Operand} :handB E fr (.makeFunc f #[] c)=false:=rfl
@[simp ↓] theorem hand_makeFunc1 {f:Fn} {x:Operand} {l:List Operand} {c:Array Operand} :handB E fr (.makeFunc f ⟨x::l⟩ c)=true:=rfl
@[simp ↓] theorem hand_bin {op:BinOp} {t yt:TypeId} {x y:Operand} :handB E fr (.binOp op t x y yt)=false:=rfl
@[simp ↓] theorem hand_un {op:UnOp} {t:TypeId} {x:Operand} :handB E fr (.unOp op t x)=false:=rfl
@[simp ↓] theorem hand_conv {s t:TypeId} {x:Operand} :handB E fr (.convert s t x)=false:=rfl
@[simp ↓] theorem hand_index {t:TypeId} {x i:Operand} :handB E fr (.index t x i)=false:=rfl
@[simp ↓] theorem hand_builtin {b:Builtin} {args:Array Operand} {ts:Array TypeId} :handB E fr (.call ⟨.builtin b,args,ts⟩)=isClear b:=rfl
@[simp] theorem clear_len:isClear .len=false:=rfl
@[simp] theorem clear_append:isClear .append=false:=rfl
@[simp] theorem clear_min:isClear .min=false:=rfl
@[simp] theorem clear_max:isClear .max=false:=rfl
@[simp] theorem clear_clear:isClear .clear=true:=rfl
def handV (E:PEnv) (v:Value):Bool:=match v with
 |.func (.func g) _ _=>E.ps g
 |.func (.yield _) _ _=>true
 |_=>false
@[simp ↓] theorem hand_call {x:Operand} {args:Array Operand} {ts:Array TypeId} :handB E fr (.call ⟨.value x,args,ts⟩)=handV E (ev fr x):=rfl
@[simp] theorem handV_func {g:FuncId} {a b:Array Value} :handV E (.func (.func g) a b)=E.ps g:=rfl
@[simp] theorem handV_tok {l:Nat} :handV E (tok l)=true:=rfl
@[simp] theorem handV_yield {l:Nat} {a b:Array Value} :handV E (.func (.yield l) a b)=true:=rfl
theorem hand_call_ret {o:Oper} {x:Operand} {args:Array Operand} {ts:Array TypeId} {g:FuncId} {first caps:Array Value} {H1:LH} (hw:lwant all fr o=some true) (hop:o.op=.call ⟨.value x,args,ts⟩) (hx:ev fr x=.func (.func g) first caps) (hps:E.ps g=true)
  (hc:R P E (.call g (first.toList++args.toList.map (ev fr)++caps.toList) H (.ret v) H1)) {fr1:Fr} (hput:lput fn.ntmps fr o.dst v=some fr1) (h:PO P E Y rd fn all os k fr1 H1 p Q):PHand P E Y rd fn all (o::os) k fr H p Q:=by
 obtain⟨r,H',p',h,q⟩:=h
 exact⟨_,_,_,.ocall hw hop hx hps hc hput h,q⟩
theorem hand_call_pan {o:Oper} {x:Operand} {args:Array Operand} {ts:Array TypeId} {g:FuncId} {first caps:Array Value} {H1:LH} (hw:lwant all fr o=some true) (hop:o.op=.call ⟨.value x,args,ts⟩) (hx:ev fr x=.func (.func g) first caps) (hps:E.ps g=true)
  (hc:R P E (.call g (first.toList++args.toList.map (ev fr)++caps.toList) H (.pan v) H1)) (h:Q (.pan v) H1 p):PHand P E Y rd fn all (o::os) k fr H p Q:=
 ⟨_,_,_,.ocallp hw hop hx hps hc,h⟩
theorem hand_mkf {o:Oper} {g:FuncId} {first caps:Array Operand} (hw:lwant all fr o=some true) (hop:o.op=.makeFunc (.func g) first caps) (h0:first.size≠0) {fr1:Fr} (hput:lput fn.ntmps fr o.dst (.func (.func g) (first.map (ev fr)) (caps.map (ev fr)))=some fr1)
  (h:PO P E Y rd fn all os k fr1 H p Q):PHand P E Y rd fn all (o::os) k fr H p Q:=by
 obtain⟨r,H',p',h,q⟩:=h
 exact⟨_,_,_,.omkf hw hop h0 hput h,q⟩
theorem hand_yield {yc:YC} {o:Oper} {x:Operand} {args:Array Operand} {ts:Array TypeId} {j:Option Code} {H1:LH} (hw:lwant all fr o=some true) (hop:o.op=.call ⟨.value x,args,ts⟩) (hx:ev fr x=tok yc.l) (hsz:args.size=yc.params.length) (hN: ∀d∈yc.params,d<yc.fn.ntmps)
  (hr:R P E (.run none 1 yc.fn [.code yc.assign,.beginRound,.code yc.body] (setL yc.fr (yc.params.zip (args.toList.map (ev fr)))) H none (.jump j) H1 none)) {fr1:Fr} (hput:lput fn.ntmps fr o.dst (.bool j.isNone)=some fr1)
  (h:PO P E (some yc) 0 fn all os k fr1 H1 j Q):PHand P E (some yc) 0 fn all (o::os) k fr H none Q:=by
 obtain⟨r,H',p',h,q⟩:=h
 exact⟨_,_,_,.oyield hw hop hx hsz hN hr hput h,q⟩
theorem ploop_ind {St:Type} (Rl:St→Fr→LH→Option Code→Prop) (μ:St→Nat) {x:Code} (st:St) (h:Rl st fr H p)
  (step: ∀st fr H p,Rl st fr H p→(∀st' fr' H' p',μ st'<μ st→Rl st' fr' H' p'→PR P E Y rd fn (.inLoop x::k) fr' H' p' Q)→PR P E Y rd fn (.code x::.inLoop x::k) fr H p Q):PR P E Y rd fn (.code (.loop x)::k) fr H p Q:=by
 have key: ∀m st fr H p,μ st<m→Rl st fr H p→PR P E Y rd fn (.inLoop x::k) fr H p Q:=by
  intro m
  induction m with
  |zero=>intro st fr H p hm;omega
  |succ m ih=>
   intro st fr H p hm hR
   exact pr_inLoop.2 (step st fr H p hR (fun st' fr' H' p' hlt hR'=>ih st' fr' H' p' (by omega) hR'))
 exact pr_loop.2 (key (μ st+1) st fr H p (Nat.lt_succ_self _) h)
theorem pcall {f:FuncId} {fn:Func} {c:Code} {args:List Value} (hf:P.funcs[f]?=some fn) (hb:fn.body=some c) (hN:args.length≤fn.ntmps) (hname:fn.name≠ "runtime.NumGoroutine") (hcd:codeOkR E.pl fn.ntmps c=true) {Q:Res→LH→Prop}
  (h:PR P E none 0 fn [.code c] (enter args) H none (fun r H' p'=>p'=none∧Q r H')): ∃r H',R P E (.call f args H r H')∧Q r H':=by
 obtain⟨r,H',p',h1,rfl,h2⟩:=h
 exact⟨r,H',.body ⟨hf,hb,hN,hname,hcd⟩ h1,h2⟩
theorem pr_ret3:PR P E Y 3 fn (.code .ret::k) fr H p Q↔PRes (lresults P fn fr H) H p Q:=by
 constructor
 ·rintro⟨r,H',p',h,q⟩
  cases h with
  |ret3 h1=>rw [h1];exact q
 ·intro h
  cases hx:lresults P fn fr H with
  |none=>rw [hx]at h;exact h.elim
  |some v=>rw [hx]at h;exact⟨_,_,_,.ret3 hx,h⟩
theorem pr_nil3:PR P E Y 3 fn [] fr H p Q↔PRes (lresults P fn fr H) H p Q:=by
 constructor
 ·rintro⟨r,H',p',h,q⟩
  cases h with
  |nil3 h1=>rw [h1];exact q
 ·intro h
  cases hx:lresults P fn fr H with
  |none=>rw [hx]at h;exact h.elim
  |some v=>rw [hx]at h;exact⟨_,_,_,.nil3 hx,h⟩
attribute [simp] pr_ret3 pr_nil3
theorem pcall_is {f:FuncId} {fn:Func} {c:Code} {args:List Value} {r:Res} (hf:P.funcs[f]?=some fn) (hb:fn.body=some c) (hN:args.length≤fn.ntmps) (hname:fn.name≠ "runtime.NumGoroutine") (hcd:codeOkR E.pl fn.ntmps c=true)
  (h:PR P E none 0 fn [.code c] (enter args) H none (fun r1 H1 p'=>p'=none∧r1=r∧H1=H')):R P E (.call f args H r H'):=by
 obtain⟨r,H',h1,rfl,rfl⟩:=pcall hf hb hN hname hcd (Q:=fun r1 H1=>r1=r∧H1=H') h
 exact h1
theorem pcall_flat {f:FuncId} {fn:Func} {c:Code} {args:List Value} {r:Res} (hf:P.funcs[f]?=some fn) (hb:fn.body=some c) (hN:args.length≤fn.ntmps) (hname:fn.name≠ "runtime.NumGoroutine") (hcd:codeOkR E.pl fn.ntmps c=true) (hr:flatR r=true)
  (h:PR P E none 0 fn [.code c] (enter args) H none (fun r1 H1 p'=>p'=none∧r1=r∧H.le H1)):R P E (.call f args H r H):=by
 obtain⟨r,H',h1,rfl,h2⟩:=pcall hf hb hN hname hcd (Q:=fun r1 H1=>r1=r∧H.le H1) h
 exact .trunc h1 hr h2
end
section
variable {P:Program} {E:Ext} {H H':LH} {ι:Ren} {w w':World} {v v':Value}
abbrev Spec:=List Value→LH→Option (Value×LH)
def SpecOk (P:Program) (f:FuncId) (s:Spec):Prop:= ∀args H v H',s args H=some (v,H')→Ran P f args H v H'
def chT (n id k:Nat):Option (List (Nat×Nat)):=
 if n=8∧id=1∧k=6 then some [(0,3),(0,4)]else
 if n=24∧id=4∧k=7 then some [(0,4)]else
 if n=10∧id=1∧k=6 then some [(0,4)]else
 if n=73∧id=3∧k=5 then some [(0,2)]else
 if n=15∧id=3∧k=10 then some [(7,8)]else
 if n=17∧id=1∧k=15 then some [(5,11)]else
 if n=58∧id=13∧k=10 then some [(5,1),(5,7)]else
 if n=143∧id=25∧k=6 then some []else
 if n=26∧id=2∧k=14 then some [(0,2),(5,2),(5,4),(6,2),(6,4)]else
 if n=55∧id=8∧k=14 then some [(0,2),(5,2),(8,2),(8,7)]else
 if n=32∧id=1∧k=9 then some [(2,1),(4,1),(4,3)]else
 if n=32∧id=2∧k=20 then some [(0,2),(4,2),(4,3),(5,2),(5,3),(12,10),(12,11)]else
 if n=44∧id=1∧k=9 then some [(1,7),(4,2),(4,7)]else
 if n=44∧id=5∧k=21 then some [(1,8),(1,15),(1,17),(10,8),(14,8)]else
 if n=18∧id=1∧k=12 then some [(8,6)]else
 if n=11 then(if id=1∧k=9 then some [(0,1)]else none)else
 if n=39∧id=1∧k=14 then some [(9,6),(9,7)]else
 if n=39∧id=2∧k=23 then some [(19,17)]else
 if n=15 then(if id=2∧k=6 then some [(2,4)]else if id=3∧k=10 then some [(7,8)]else none)else
 if n=22 then(if id=6∧k=4 then some [(1,2)]else none)else
 if n=26 then(if id=1∧k=9 then some [(2,1)]else none)else
 if n=27 then(if id=5∧k=16 then some []else none)else
 if n=28 then(if id=5∧k=10 then some [(5,3)]else if id=6∧k=8 then some []else none)else
 if n=29 then(if id=4∧k=10 then some [(0,2),(0,3),(0,7)]else none)else
 if n=32 then(if id=3∧k=16 then some []else if id=5∧k=12 then some []else none)else
 if n=34 then(if id=3∧k=16 then some []else none)else
 if n=35 then(if id=10∧k=4 then some [(0,1)]else none)else
 if n=36 then(if id=5∧k=17 then some [(11,6)]else none)else
 if n=38 then(if id=3∧k=24 then some []else none)else
 if n=39 then(if id=4∧k=16 then some [(3,9),(5,9),(5,11),(7,9),(7,11),(7,13)]else if id=6∧k=11 then some [(0,5)]else if id=7∧k=13 then some [(0,5),(0,9)]else none)else
 if n=41 then(if id=1∧k=15 then some [(1,6),(1,10),(1,11),(1,13),(3,6),(3,10),(3,11),(3,13),(5,10),(5,13)]else none)else
 if n=42 then(if id=5∧k=12 then some [(2,7)]else none)else
 if n=46 then(if id=5∧k=18 then some [(5,13)]else if id=8∧k=13 then some [(4,2),(4,7),(4,10),(6,2)]else none)else
 if n=49 then(if id=6∧k=18 then some []else none)else
 if n=52 then(if id=12∧k=9 then some []else none)else
 if n=53 then(if id=6∧k=18 then some []else none)else
 if n=55 then(if id=1∧k=9 then some [(2,1)]else if id=2∧k=10 then some [(0,2),(0,6),(0,7),(1,6),(1,7)]else none)else
 if n=56 then(if id=9∧k=13 then some [(5,0),(5,4)]else if id=10∧k=20 then some []else none)else
 if n=58 then(if id=7∧k=19 then some []else none)else
 if n=59 then(if id=5∧k=9 then some [(2,7),(6,7)]else none)else
 if n=60 then(if id=10∧k=12 then some [(5,7)]else if id=10∧k=20 then some []else none)else
 if n=62 then(if id=8∧k=14 then some []else if id=9∧k=12 then some []else none)else
 if n=63 then(if id=4∧k=21 then some [(4,12),(4,13),(6,12),(6,13),(6,17),(10,12)]else none)else
 if n=65 then(if id=10∧k=20 then some []else none)else
 if n=67 then(if id=8∧k=16 then some [(9,0),(9,4),(11,0),(11,4)]else if id=10∧k=20 then some []else if id=12∧k=8 then some [(3,0),(3,2)]else none)else
 if n=68 then(if id=6∧k=12 then some [(3,8),(3,9),(7,8),(7,9),(7,10)]else none)else
 if n=72 then(if id=9∧k=17 then some [(9,0),(9,4)]else if id=11∧k=17 then some [(0,4),(0,7),(0,12)]else none)else
 if n=76 then(if id=6∧k=24 then some []else none)else
 if n=77 then(if id=20∧k=10 then some []else none)else
 if n=79 then(if id=9∧k=12 then some [(5,3)]else none)else
 if n=80 then(if id=8∧k=13 then some [(3,5),(8,10)]else none)else
 if n=82 then(if id=6∧k=24 then some []else if id=9∧k=15 then some []else if id=21∧k=9 then some []else none)else
 if n=84 then(if id=1∧k=16 then some []else if id=8∧k=16 then some []else if id=9∧k=11 then some []else none)else
 if n=89 then(if id=9∧k=31 then some [(5,1),(10,1),(10,8),(10,17),(15,1),(15,8),(16,1),(16,8),(24,1),(24,8),(24,17),(24,19),(24,20)]else none)else
 if n=90 then(if id=1∧k=16 then some []else if id=8∧k=16 then some []else none)else
 if n=108 then(if id=15∧k=14 then some []else none)else
 if n=105 then(if id=8∧k=18 then some []else if id=10∧k=19 then some []else none)else
 if n=133 then(if id=11∧k=18 then some []else if id=17∧k=18 then some []else if id=23∧k=18 then some []else none)else
 if n=134 then(if id=15∧k=10 then some []else if id=19∧k=8 then some []else none)else
 if n=136 then(if id=10∧k=12 then some [(3,8),(3,9),(7,8),(7,9),(7,10)]else none)else
 if n=139 then(if id=7∧k=21 then some [(11,7),(15,7)]else if id=16∧k=17 then some [(9,0),(9,4)]else if id=20∧k=18 then some [(11,5)]else none)else
 if n=141 then(if id=11∧k=18 then some []else if id=15∧k=13 then some [(5,8)]else if id=17∧k=18 then some []else if id=23∧k=18 then some []else none)else
 if n=143 then(if id=10∧k=8 then some []else if id=10∧k=11 then some []else if id=14∧k=10 then some []else if id=28∧k=9 then some []else none)else
 if n=151 then(if id=19∧k=19 then some [(3,1),(9,7),(16,14)]else if id=21∧k=31 then some [(3,1),(9,7),(16,14)]else none)else
 if n=167 then(if id=7∧k=15 then some []else if id=8∧k=15 then some []else if id=9∧k=15 then some []else if id=10∧k=15 then some []else if id=17∧k=15 then some []else if id=18∧k=15 then some []else if id=23∧k=15 then some []else none)else
 if n=168 then(if id=1∧k=16 then some []else if id=8∧k=16 then some []else if id=10∧k=16 then some []else if id=18∧k=16 then some []else if id=21∧k=16 then some []else none)else
 if n=178 then(if id=1∧k=16 then some []else if id=8∧k=16 then some []else if id=10∧k=16 then some []else if id=18∧k=16 then some []else if id=21∧k=16 then some []else none)else
 if n=201 then(if id=17∧k=24 then some []else if id=19∧k=20 then some [(5,1),(12,1),(12,8)]else none)else
 if n=220 then(if id=11∧k=18 then some []else if id=23∧k=18 then some []else none)else
 none
def extLL (l:List (FuncId×Spec)) (loud:List FuncId):Ext:=⟨fun f=>(l.find? (fun p=>p.1==f)).map (·.2),⟨fun f=>loud.contains f,chT,fun _ _=>false,fun _ _ _=> []⟩⟩
@[simp] theorem extLL_pm {l:List (FuncId×Spec)} {loud:List FuncId} {n id k:Nat} :(extLL l loud).loud.pm n id k= []:=rfl
@[simp] theorem extLL_cv {l:List (FuncId×Spec)} {loud:List FuncId} {s d:TypeId} :(extLL l loud).loud.cv s d=false:=rfl
@[simp] theorem extLL_ch {l:List (FuncId×Spec)} {loud:List FuncId} {n id k:Nat} :(extLL l loud).loud.ch n id k=chT n id k:=rfl
attribute [simp] chT
theorem extL_ok {l:List (FuncId×Spec)} {loud:List FuncId} (h: ∀p∈l,SpecOk P p.1 p.2):ExtOk P (extLL l loud):=by
 intro f s hs args H v H' hr
 unfold extLL at hs
 obtain⟨p,hp,rfl⟩:=Option.map_eq_some_iff.1 hs
 have h1:=List.find?_some hp
 have h2:=List.mem_of_find?_eq_some hp
 simp only [beq_iff_eq]at h1
 subst h1
 exact h p h2 args H v H' hr
theorem callOk_flatC {f:FuncId} {args:List Value} (hf: ∀x∈args,flatB x=true) (hv:flatB v=true) (h: ∀w,Calls P f args.toArray w fun e w'=>e=.returned v∧Change (fun _=>False) w w'):CallOk P f args H v H:=by
 intro ι w args' hrel h1 h2
 have e:args'=args.toArray:=by
  apply Array.ext
  ·simp [h1]
  ·intro i h3 h4
   have hx:args[i]?=some (args[i]'(by simpa using h4)):=List.getElem?_eq_getElem _
   have:=flat_eq (h2 i _ _ hx (Array.getElem?_eq_getElem h3)) (hf _ (List.getElem_mem _))
   rw [this];simp
 subst e
 refine(h w).mono ?_
 rintro e w' ⟨rfl,hc⟩
 exact⟨ι,v,rfl,out_change hrel hc,.flat _ hv⟩
theorem callOk_row {f:FuncId} {args:List Value} {cells:List Value} {e:TypeId} {k:Nat} (hf: ∀x∈args,flatB x=true) (hc: ∀x∈cells,flatB x=true) (hs:sz P e=some 1) (hk:cells.length=k) (hm:k≤maxLen)
  (h: ∀ι w,Rel P H ι w→Calls P f args.toArray w fun x w'=>x=.returned (.slice (some ⟨w.heap.size,0,none⟩) k k)∧w'=w.alloc (.cells cells.toArray e)):CallOk P f args H (sl H.n k k) (H.new ⟨cells,e,true⟩):=by
 intro ι w args' hrel h1 h2
 have e1:args'=args.toArray:=by
  apply Array.ext
  ·simp [h1]
  ·intro i h3 h4
   have hx:args[i]?=some (args[i]'(by simpa using h4)):=List.getElem?_eq_getElem _
   have:=flat_eq (h2 i _ _ hx (Array.getElem?_eq_getElem h3)) (hf _ (List.getElem_mem _))
   rw [this];simp
 subst e1
 refine(h ι w hrel).mono ?_
 rintro x w' ⟨rfl,rfl⟩
 have ho:=rel_new hrel (b:=⟨cells,e,true⟩) (arr:=cells.toArray) (slack:=0) rfl hs (by simp) (fun n hn hl=>by simp at hl;omega) (fun i x hx=>⟨x,by simpa using hx,.flat _ (hc x (List.mem_of_getElem? hx))⟩)
 refine⟨_,_,rfl,ho,?_⟩
 have:=VR.slice (n:=(H.new ⟨cells,e,true⟩).D) (ι:=ι.add H.n ⟨w.heap.size,0,0⟩) H.n 0 k k ((D_new hrel H.n).2 (.inr rfl)) (Nat.le_refl _)
 simpa [Ren.add]using this
theorem pin_block (hrel:Rel P H ι w) {g:Nat} (hg:g<H.ng):w.heap[g]?=H.base.heap[g]?:=(hrel.pin g hg).1
end
section
variable {P:Program} {H H':LH} {v x:Value} {xs:List Value} {e t:TypeId} {N:Nat} {b:LB}
def Row (N:Nat) (H:LH) (e:TypeId) (v:Value) (xs:List Value):Prop:=
 (v=.slice none 0 0∧xs= [])∨ ∃k c rest,v=sl k xs.length c∧N≤k∧H.get k=some ⟨xs++rest,e,true⟩∧c=xs.length+rest.length
def offRow (v:Value) (k:Nat):Prop:= ∀n c,v≠sl k n c
theorem Row.nil:Row N H e (.slice none 0 0) []:=.inl ⟨rfl,rfl⟩
theorem Row.len (h:Row N H e v xs) (hu:P.underlying t=some (.slice e)):lbuiltin P .len [t] [v] H'=some (.int .i64 xs.length,H'):=by
 rcases h with⟨rfl,rfl⟩|⟨k,c,rest,rfl,_⟩
 ·exact lbuiltin_len_slice hu
 ·exact lbuiltin_len_slice hu
theorem Row.cell (h:Row N H e v xs):cellB v=true:=by
 rcases h with⟨rfl,rfl⟩|⟨k,c,rest,rfl,_⟩<;>simp
theorem Row.keep (h:Row N H e v xs) (hk: ∀k,N≤k→ ¬offRow v k→H'.get k=H.get k):Row N H' e v xs:=by
 rcases h with⟨rfl,rfl⟩|⟨k,c,rest,rfl,h1,h2,h3⟩
 ·exact .inl ⟨rfl,rfl⟩
 ·exact .inr ⟨k,c,rest,rfl,h1,by rw [hk k h1 (fun h=>h _ _ rfl)];exact h2,h3⟩
theorem Row.off_of_elem (h:Row N H e v xs) {l:Nat} (hl:H.get l=some b) (hne:b.elem≠e):offRow v l:=by
 rcases h with⟨rfl,rfl⟩|⟨k,c,rest,rfl,h1,h2,h3⟩
 ·intro n c h;cases h
 ·intro n c h
  injection h with h
  injection h with h
  injection h with h
  subst h
  rw [h2]at hl
  injection hl with hl
  subst hl
  exact hne rfl
theorem off_nil {k:Nat} :offRow (.slice none 0 0) k:=fun n c h=>by cases h
theorem Row.push (h:Row N H e v xs) (hu:P.underlying t=some (.slice e)) (hs:lesz P e=some 1) (hx:cellB x=true) (hm:xs.length+1≤maxElems) (hN:N≤H.n) (hdom: ∀l,H.n≤l→H.get l=none):
  ∃v' H',lapp P t v (some (1,[x])) H=some (v',H')∧Row N H' e v' (xs++ [x])∧H.n≤H'.n∧(∀k,k<H.n→offRow v k→H'.get k=H.get k)∧(∀k,k<H.n→offRow v k→offRow v' k)∧(∀l,H'.n≤l→H'.get l=none)∧H'.base=H.base∧H'.ng=H.ng:=by
 have hc: [x].all cellB=true:=by simp [hx]
 rcases h with⟨rfl,rfl⟩|⟨k,c,rest,rfl,h1,h2,h3⟩
 ·refine⟨_,_,lapp_nil hu hs hc (by omega) (by simp [maxElems]),.inr ⟨H.n,1,[],rfl,hN,by simp,rfl⟩,by simp,fun k hk _=>get_new_ne (by omega),fun k hk _ n c h=>?_,fun l hl=>?_,rfl,rfl⟩
  ·injection h with h
   injection h with h
   injection h with h
   omega
  ·have:H.n+1≤l:=hl
   rw [get_new_ne (by omega)];exact hdom l (by omega)
 ·have hklt:k<H.n:=by
   rcases Nat.lt_or_ge k H.n with h|h
   ·exact h
   ·rw [hdom k h]at h2;cases h2
  cases rest with
  |nil=>
   simp only [List.length_nil,Nat.add_zero]at h3
   subst h3
   have ha:=lapp_grow (P:=P) (H:=H) (t:=t) (m:=1) (new:= [x]) (n:=xs.length) (s:=1) hu hs hc (by omega) hm h2 rfl rfl (by simp)
   simp only [List.append_nil]at ha h2
   refine⟨_,_,ha,.inr ⟨H.n,xs.length+1,[],by simp,hN,?_,by simp⟩,by simp,fun j hj ho=>?_,fun j hj ho n c h=>?_,fun l hl=>?_,rfl,rfl⟩
   ·rw [show H.n=(H.kill k).n from rfl,get_new];simp
   ·have hjk:j≠k:=fun e=>ho _ _ (by rw [e])
    rw [get_new_ne (by simp;omega),get_kill_ne hjk]
   ·injection h with h
    injection h with h
    injection h with h
    omega
   ·have:H.n+1≤l:=hl
    rw [get_new_ne (by simp;omega),get_kill_ne (by omega)];exact hdom l (by omega)
  |cons z rest=>
   have ha:=lapp_in (P:=P) (H:=H) (t:=t) (m:=1) (new:= [x]) (n:=xs.length) (cp:=c) (s:=1) hu hs hc (by omega) h2 rfl rfl (by simp [h3]) (by simp [h3])
   refine⟨_,_,ha,.inr ⟨k,c,rest,by simp,h1,?_,by simp [h3];omega⟩,by simp,fun j hj ho=>?_,fun j hj ho n c' h=>?_,fun l hl=>?_,rfl,rfl⟩
   ·rw [get_set]
    congr 2
    simp [splice]
   ·have hjk:j≠k:=fun e=>ho _ _ (by rw [e])
    rw [get_set_ne hjk]
   ·injection h with h
    injection h with h
    injection h with h
    subst h
    exact ho _ _ rfl
   ·have:H.n≤l:=hl
    rw [get_set_ne (by omega)];exact hdom l this
theorem Row.take (h:Row N H e v xs) (hu:P.underlying t=some (.slice e)) (hs:sz P e=some 1) {j:Int} {kd:IntKind} (h0:0≤j) (h1:j<xs.length): ∃v',lpart P t v none (some (.int kd j))=some v'∧Row N H e v' (xs.take j.toNat)∧ ∀k,offRow v k→offRow v' k:=by
 rcases h with⟨rfl,rfl⟩|⟨k,c,rest,rfl,g1,g2,g3⟩
 ·simp at h1;omega
 ·refine⟨_,lpart_row_ns hu hs h0 (by omega),.inr ⟨k,c,xs.drop j.toNat++rest,?_,g1,?_,?_⟩,fun i hi n c' h=>?_⟩
  ·rw [List.length_take,Nat.min_eq_left (by omega)]
  ·rw [←List.append_assoc,List.take_append_drop];exact g2
  ·simp;omega
  ·injection h with h
   injection h with h
   injection h with h
   subst h
   exact hi _ _ rfl
theorem Row.at (h:Row N H e v xs) (hu:P.underlying t=some (.slice e)) (hs:sz P e=some 1) (ha:aggB P e=some false) {j:Int} {kd:IntKind} (h0:0≤j) (h1:j<xs.length) {d:Value} : ∃p,lixa P t v (.int kd j) H'=some (p,H')∧lld P e p H=some (xs.getD j.toNat d):=by
 rcases h with⟨rfl,rfl⟩|⟨k,c,rest,rfl,g1,g2,g3⟩
 ·simp at h1;omega
 ·refine⟨_,lixa_row hu hs h0 (by omega),?_⟩
  rw [lld_ptr g2,ha]
  simp only [lldb_cell,Nat.zero_add,Nat.mul_one]
  have hlt:j.toNat<xs.length:=by omega
  rw [List.getElem?_append,if_pos hlt,List.getD_eq_getElem?_getD,List.getElem?_eq_getElem hlt];rfl
end
section
variable {P:Program} {fr:Fr} {H H0:LH} {T:Callee} {L:Loud} {t s:TypeId} {x y i c:Operand}
@[simp ↓] theorem lmixx_move:lmixx P T (.move x) fr H0 H=lopx P T (.move x) fr H:=rfl
@[simp ↓] theorem loud_move:loudOp L (.move x)=false:=rfl
@[simp ↓] theorem lmixx_assign:lmixx P T (.assign x) fr H0 H=lopx P T (.assign x) fr H:=rfl
@[simp ↓] theorem loud_assign:loudOp L (.assign x)=false:=rfl
@[simp ↓] theorem lmixx_pick:lmixx P T (.pick c x y) fr H0 H=lopx P T (.pick c x y) fr H:=rfl
@[simp ↓] theorem loud_pick:loudOp L (.pick c x y)=false:=rfl
@[simp ↓] theorem lmixx_box:lmixx P T (.box t x) fr H0 H=lopx P T (.box t x) fr H:=rfl
@[simp ↓] theorem loud_box:loudOp L (.box t x)=false:=rfl
@[simp ↓] theorem lmixx_alloc:lmixx P T (.alloc t) fr H0 H=lopx P T (.alloc t) fr H:=rfl
@[simp ↓] theorem loud_alloc:loudOp L (.alloc t)=false:=rfl
@[simp ↓] theorem lmixx_load:lmixx P T (.load t x) fr H0 H=lopx P T (.load t x) fr H:=rfl
@[simp ↓] theorem loud_load:loudOp L (.load t x)=false:=rfl
@[simp ↓] theorem lmixx_nilCheck:lmixx P T (.nilCheck x) fr H0 H=lopx P T (.nilCheck x) fr H:=rfl
@[simp ↓] theorem loud_nilCheck:loudOp L (.nilCheck x)=false:=rfl
@[simp ↓] theorem lmixx_fieldAddr {f:Nat} :lmixx P T (.fieldAddr t x f) fr H0 H=lopx P T (.fieldAddr t x f) fr H:=rfl
@[simp ↓] theorem loud_fieldAddr {f:Nat} :loudOp L (.fieldAddr t x f)=false:=rfl
@[simp ↓] theorem lmixx_indexAddr:lmixx P T (.indexAddr t x i) fr H0 H=lopx P T (.indexAddr t x i) fr H:=rfl
@[simp ↓] theorem loud_indexAddr:loudOp L (.indexAddr t x i)=false:=rfl
@[simp ↓] theorem lmixx_slice {lo hi mx:Option Operand} :lmixx P T (.slice t x lo hi mx) fr H0 H=lopx P T (.slice t x lo hi mx) fr H:=rfl
@[simp ↓] theorem loud_slice {lo hi mx:Option Operand} :loudOp L (.slice t x lo hi mx)=false:=rfl
@[simp ↓] theorem lmixx_field {f:Nat} :lmixx P T (.field t x f) fr H0 H=lopx P T (.field t x f) fr H:=rfl
@[simp ↓] theorem loud_field {f:Nat} :loudOp L (.field t x f)=false:=rfl
@[simp ↓] theorem lmixx_extract {f:Nat} :lmixx P T (.extract x f) fr H0 H=lopx P T (.extract x f) fr H:=rfl
@[simp ↓] theorem loud_extract {f:Nat} :loudOp L (.extract x f)=false:=rfl
@[simp ↓] theorem lmixx_build {ps:Array (Nat×Operand)} :lmixx P T (.build t ps) fr H0 H=lopx P T (.build t ps) fr H:=rfl
@[simp ↓] theorem loud_build {ps:Array (Nat×Operand)} :loudOp L (.build t ps)=false:=rfl
@[simp ↓] theorem lmixx_buildSlice {f:Nat} {ps:Array (Nat×Operand)} :lmixx P T (.buildSlice t f ps) fr H0 H=lopx P T (.buildSlice t f ps) fr H:=rfl
@[simp ↓] theorem loud_buildSlice {f:Nat} {ps:Array (Nat×Operand)} :loudOp L (.buildSlice t f ps)=false:=rfl
@[simp ↓] theorem lmixx_binOp {op:BinOp} :lmixx P T (.binOp op t x y s) fr H0 H=lopx P T (.binOp op t x y s) fr H:=rfl
@[simp ↓] theorem loud_binOp {op:BinOp} :loudOp L (.binOp op t x y s)=false:=rfl
@[simp ↓] theorem lmixx_unOp {uop:UnOp} :lmixx P T (.unOp uop t x) fr H0 H=lopx P T (.unOp uop t x) fr H:=rfl
@[simp ↓] theorem loud_unOp {uop:UnOp} :loudOp L (.unOp uop t x)=false:=rfl
def lcvQ (P:Program) (s d:TypeId) (v:Value) (H:LH):Option (Value×LH):=match lbytes P s d v H with
 |some r=>some r
 |none=>withH (lconv P s d v H) H
@[simp ↓] theorem lmixx_convert:lmixx P T (.convert s t x) fr H0 H=lcvQ P s t (ev fr x) H:=by
 show(match lbytes P s t (ev fr x) H with|some r=>some r|none=>lopx P T (.convert s t x) fr H)=_
 rw [lopx_conv];rfl
theorem lcvQ_no {v:Value} (h: ∀bs,v≠.string bs):lcvQ P s t v H=withH (lconv P s t v H) H:=by
 unfold lcvQ;rw [lbytes_no h]
@[simp] theorem lcvQ_int {kd:IntKind} {n:Int} :lcvQ P s t (.int kd n) H=withH (lconv P s t (.int kd n) H) H:=lcvQ_no (fun _ h=>by cases h)
@[simp] theorem lcvQ_float {kd:FloatKind} {n:Nat} :lcvQ P s t (.float kd n) H=withH (lconv P s t (.float kd n) H) H:=lcvQ_no (fun _ h=>by cases h)
@[simp] theorem lcvQ_slice {a:Option Addr} {n c:Nat} :lcvQ P s t (.slice a n c) H=withH (lconv P s t (.slice a n c) H) H:=lcvQ_no (fun _ h=>by cases h)
@[simp] theorem lcvQ_undef:lcvQ P s t undef H=withH (lconv P s t undef H) H:=lcvQ_no (fun _ h=>by cases h)
theorem lcvQ_str {l:List UInt8} :lcvQ P s t (str l) H=lcvB P s t (str l) H:=by
 have e2:lmark P s t (str l) H=none:=by
  unfold lmark
  split
  ·rename_i h;cases h
  ·rfl
 unfold lcvQ lcvB lbytesM
 rw [e2]
 cases lbytes P s t (str l) H<;>rfl
@[simp] theorem lcvQ_bytes {e:TypeId} {l:List UInt8} (hs:P.underlying s=some .string) (hd:P.underlying t=some (.slice e)) (he:P.underlying e=some (.int .u8)) (hz:sz P e=some 1):lcvQ P s t (str l) H=some (.slice (some ⟨H.n,0,none⟩) l.length l.length,H.new ⟨l.map fun b=>Value.int .u8 b.toNat,MK P e,decide (l.length≤maxLen)⟩):=by
 rw [lcvQ_str];exact lcvB_bytes hs hd he hz
@[simp] theorem lcvQ_strs {l:List UInt8} (hd:P.underlying t=some .string):lcvQ P s t (str l) H=withH (lconv P s t (str l) H) H:=by
 rw [lcvQ_str];exact lcvB_strs hd
@[simp ↓] theorem lmixx_makeSlice:lmixx P T (.makeSlice t x y) fr H0 H=lopx P T (.makeSlice t x y) fr H:=rfl
@[simp ↓] theorem loud_convert:loudOp L (.convert s t x)=false:=rfl
@[simp ↓] theorem lmixx_index:lmixx P T (.index t x i) fr H0 H=lopx P T (.index t x i) fr H:=rfl
@[simp ↓] theorem loud_index:loudOp L (.index t x i)=false:=rfl
@[simp ↓] theorem lmixx_makeFunc {g:Fn} {c1 c2:Array Operand} :lmixx P T (.makeFunc g c1 c2) fr H0 H=lopx P T (.makeFunc g c1 c2) fr H:=rfl
@[simp ↓] theorem loud_makeFunc {g:Fn} {c1 c2:Array Operand} :loudOp L (.makeFunc g c1 c2)=false:=rfl
@[simp ↓] theorem loud_store:loudOp L (.store t x y)=true:=rfl
@[simp ↓] theorem loud_append {args:Array Operand} {ts:Array TypeId} :loudOp L (.call ⟨.builtin .append,args,ts⟩)=true:=rfl
@[simp ↓] theorem loud_len {args:Array Operand} {ts:Array TypeId} :loudOp L (.call ⟨.builtin .len,args,ts⟩)=false:=rfl
@[simp ↓] theorem loud_min {args:Array Operand} {ts:Array TypeId} :loudOp L (.call ⟨.builtin .min,args,ts⟩)=false:=rfl
@[simp ↓] theorem loud_max {args:Array Operand} {ts:Array TypeId} :loudOp L (.call ⟨.builtin .max,args,ts⟩)=false:=rfl
@[simp ↓] theorem loud_call {g:FuncId} {args:Array Operand} {ts:Array TypeId} :loudOp L (.call ⟨.value (.func g),args,ts⟩)=L g:=rfl
@[simp ↓] theorem loud_callt {g:Tmp} {args:Array Operand} {ts:Array TypeId} :loudOp L (.call ⟨.value (.tmp g),args,ts⟩)=false:=rfl
def sameH (x:Option (Value×LH)) (H:LH):Option (Value×LH):=x.map fun r=>(r.1,H)
@[simp] theorem sameH_some {v:Value} {H1:LH} :sameH (some (v,H1)) H=some (v,H):=rfl
@[simp] theorem sameH_none:sameH none H=none:=rfl
@[simp ↓] theorem lmixx_len {args:List Operand} {ts:List TypeId} :lmixx P T (.call ⟨.builtin .len,⟨args⟩,⟨ts⟩⟩) fr H0 H=sameH (lbuiltin P .len ts (args.map (ev fr)) H) H:=rfl
@[simp ↓] theorem lmixx_min {args:List Operand} {ts:List TypeId} :lmixx P T (.call ⟨.builtin .min,⟨args⟩,⟨ts⟩⟩) fr H0 H=sameH (lbuiltin P .min ts (args.map (ev fr)) H) H:=rfl
@[simp ↓] theorem lmixx_max {args:List Operand} {ts:List TypeId} :lmixx P T (.call ⟨.builtin .max,⟨args⟩,⟨ts⟩⟩) fr H0 H=sameH (lbuiltin P .max ts (args.map (ev fr)) H) H:=rfl
def mcall (b:Bool) (x:Option (Value×LH)) (H:LH):Option (Value×LH):=match b,x with|true,some (v,_)=>if flatB v then some (v,H)else none|_,_=>none
@[simp] theorem mcall_some {v:Value} {H1:LH} (h:flatB v=true):mcall true (some (v,H1)) H=some (v,H):=by simp [mcall,h]
@[simp] theorem mcall_none {b:Bool} :mcall b none H=none:=by cases b<;>rfl
@[congr] theorem mcall_congr {b b':Bool} {x x':Option (Value×LH)} (h1:b=b') (h2:x=x'):mcall b x H=mcall b' x' H:=by rw [h1,h2]
def flatL:List Value→Bool
 | []=>true
 |v::l=>flatB v&&flatL l
@[simp] theorem flatL_nil:flatL []=true:=rfl
@[simp] theorem flatL_cons {v:Value} {l:List Value} :flatL (v::l)=(flatB v&&flatL l):=rfl
theorem flatL_eq: ∀l:List Value,l.all flatB=flatL l
 | []=>rfl
 |v::l=>by simp only [List.all_cons,flatL,flatL_eq l]
def lowH (H0 H:LH) (f:Value) (args:List Value):Bool:=H.n==H0.n||(flatB f&&flatL args)
@[simp] theorem lowH_same {f:Value} {args:List Value} :lowH H H f args=true:=by simp [lowH]
@[simp] theorem lowH_flat {f:Value} {args:List Value} (h1:flatB f=true) (h2:flatL args=true):lowH H0 H f args=true:=by simp [lowH,h1,h2]
@[simp] theorem flat_fn {g:FuncId} :flatB (.func (.func g) #[] #[])=true:=rfl
@[simp ↓] theorem lmixx_call {f:Operand} {args:List Operand} {ts:Array TypeId} :lmixx P T (.call ⟨.value f,⟨args⟩,ts⟩) fr H0 H=mcall (lowH H0 H (ev fr f) (args.map (ev fr))) (lcallee P T (ev fr f) (args.map (ev fr)) H0.ro) H:=by
 show(if(H.n==H0.n||(flatB (ev fr f)&&(args.map (ev fr)).all flatB))=true then(match lcallee P T (ev fr f) (args.map (ev fr)) H0.ro with|some (v,_)=>if flatB v then some v else none|none=>none).map (fun v=>(v,H))else none)=_
 rw [flatL_eq]
 unfold lowH mcall
 cases (H.n==H0.n||(flatB (ev fr f)&&flatL (args.map (ev fr))))with
 |false=>rfl
 |true=>
  rw [if_pos rfl]
  cases lcallee P T (ev fr f) (args.map (ev fr)) H0.ro with
  |none=>rfl
  |some x=>
   obtain⟨v,H1⟩:=x
   simp only
   split<;>rfl
end
section
variable {P:Program} {H:LH} {t:TypeId} {a b:Bool}
theorem pureVal_equal_b (hu:P.underlying t=some .bool):pureVal P (Op.equal t (.bool a) (.bool b))=some (a==b):=by
 unfold Op.equal
 show pureVal P (Op.equalIn (9999+1) t (.bool a) (.bool b))=_
 unfold Op.equalIn
 simp only [pureVal_bind,pureVal_und,hu,Option.bind_some,pureVal_pure]
@[simp] theorem lbin_beq (hu:P.underlying t=some .bool):lbin P .eql t (.bool a) (.bool b)=some (.bool (a==b)):=lbin_bb (by simp only [binOp,pureVal_bind,pureVal_equal_b hu,Option.bind_some,pureVal_pure]) rfl
@[simp] theorem lbin_bne (hu:P.underlying t=some .bool):lbin P .neq t (.bool a) (.bool b)=some (.bool (a !=b)):=lbin_bb (by simp only [binOp,pureVal_bind,pureVal_equal_b hu,Option.bind_some,pureVal_pure];rfl) rfl
@[simp ↓] theorem ev_str0 {fr:Fr} :ev fr (.const (.string ⟨#[]⟩))=str []:=rfl
@[simp ↓] theorem ev_str1 {fr:Fr} :ev fr (.const (.string ByteArray.empty))=str []:=rfl
@[simp] theorem ev_strc {fr:Fr} {l:List UInt8} :ev fr (.const (str l))=str l:=by
 show(if flatB (str l)then str l else unk)=_
 rw [if_pos flat_str]
@[simp] theorem get_new_eq {H:LH} {b:LB} {l:Nat} (h:l=H.n):(H.new b).get l=some b:=by subst h;exact get_new
@[simp] theorem new_set_eq {H:LH} {b c:LB} {l:Nat} (h:l=H.n):(H.new b).set l c=H.new c:=by subst h;exact new_set
@[simp ↓] theorem lopx_makeSlice {T:Callee} {fr:Fr} {x y:Operand} :lopx P T (.makeSlice t x y) fr H=lmake P t (ev fr x) (ev fr y) H:=rfl
@[simp] theorem lmake_one {e:TypeId} {z:Value} {l c:Int} {k k':IntKind} (hu:P.underlying t=some (.slice e)) (hs:lesz P e=some 1) (hz:zr P e=some z) (hf:flatB z=true) (hc:cellB z=true) (h0:0≤l) (h1:l≤c) (h2:c≤1048576):
  lmake P t (.int k l) (.int k' c) H=some (.slice (some ⟨H.n,0,none⟩) l.toNat c.toNat,H.new ⟨List.replicate c.toNat z,e,true⟩):=by
 unfold lesz at hs
 unfold zr at hz
 unfold lmake
 simp only [hu]
 cases hi:P.info? e with
 |none=>simp [hi]at hs
 |some i=>
  simp only [hi,Option.bind_some]at hs hz
  rw [hz]at hs
  simp only at hs
  split at hs
  ·rename_i hh
   simp only [Option.some.injEq]at hs
   simp only [hz]
   have hcs:z.cells=#[z]:=cells_one hc
   rw [if_pos (by
    simp only [Bool.and_eq_true,decide_eq_true_eq,beq_iff_eq]
    refine⟨⟨⟨⟨⟨⟨hf,by omega⟩,h0⟩,h1⟩,by rw [hs];omega⟩,hh.2.2⟩,by rw [hcs,hs];rfl⟩)]
   congr 3
   rw [hcs,hs,Nat.mul_one]
   congr 1
   apply List.ext_getElem
   ·simp
   ·intro i h1 h2
    simp [Nat.mod_one]
  ·cases hs
end
abbrev KF:=Fr→LH→Prop
def LX (P:Program) (T:Callee) (N:Nat) (all:Array Oper) (os:List Oper) (fr:Fr) (H:LH) (K:KF):Prop:= ∃fr' H',lops P T N all os fr H=some (fr',H')∧K fr' H'
def LX0 (cv:TypeId→TypeId→Bool) (P:Program) (T:Callee) (N:Nat) (all:Array Oper) (os:List Oper) (fr:Fr) (H:LH) (K:KF):Prop:= ∃fr' H',@lops0 ⟨cv⟩ P T N all os fr H=some (fr',H')∧K fr' H'
def MX (P:Program) (L:Loud) (T:Callee) (N:Nat) (all:Array Oper) (H0:LH) (os:List Oper) (fr:Fr) (H:LH) (K:KF):Prop:= ∃fr' H',lmix P L T N all H0 os fr H=some (fr',H')∧K fr' H'
def CX (cv:TypeId→TypeId→Bool) (P:Program) (T:Callee) (N:Nat) (all:Array Oper) (prs:List (Nat×Nat)) (j:Nat) (old:Nat→Fr×LH) (os:List Oper) (fr:Fr) (H:LH) (K:KF):Prop:= ∃fr' H',@lchain ⟨cv⟩ P T N all prs j old os fr H=some (fr',H')∧K fr' H'
def DPm (P:Program) (L:Loud) (T:Callee) (N:Nat) (prs:List (Nat×Nat)) (l:List Oper) (fr:Fr) (H:LH) (K:KF):Prop:=CX L.cv P T N ⟨l⟩ prs 0 (fun _=>(fr,H)) l fr H K
def DX (P:Program) (L:Loud) (T:Callee) (N:Nat) (x:Option (List (Nat×Nat))) (p:List Nat) (l:List Oper) (fr:Fr) (H:LH) (K:KF):Prop:=
 match x with
 |none=>MX P L T N ⟨l⟩ H l fr H K
 |some prs=>DPm P L T N prs (permL p l) fr H K
def XS (x:Option (Value×LH)) (d N:Nat) (fr:Fr) (F:KF):Prop:=match x with|some (v,H)=>d<N∧F (upd fr d v) H|none=>False
def XS0 (x:Option (Value×LH)) (fr:Fr) (F:KF):Prop:=match x with|some (_,H)=>F fr H|none=>False
def XG (g:Option Bool) (x:Option (Value×LH)) (d N:Nat) (fr:Fr) (H:LH) (F:KF):Prop:=match g with|some true=>XS x d N fr F|some false=>d<N∧F (upd fr d undef) H|none=>False
def XC (P:Program) (x:Option (Value×LH)) (d N:Nat) (op:Op) (all:Array Oper) (prs:List (Nat×Nat)) (j:Nat) (old:Nat→Fr×LH) (fr:Fr) (F:KF):Prop:=match x with
 |some (v,H')=>d<N∧ckR P j op fr old v prs∧ckH P j all old (upd fr d v) H' prs∧F (upd fr d v) H'
 |none=>False
def XC0 (P:Program) (x:Option (Value×LH)) (op:Op) (all:Array Oper) (prs:List (Nat×Nat)) (j:Nat) (old:Nat→Fr×LH) (fr:Fr) (F:KF):Prop:=match x with
 |some (v,H')=>ckR P j op fr old v prs∧ckH P j all old fr H' prs∧F fr H'
 |none=>False
def XCG (P:Program) (g:Option Bool) (x:Option (Value×LH)) (d N:Nat) (op:Op) (all:Array Oper) (prs:List (Nat×Nat)) (j:Nat) (old:Nat→Fr×LH) (fr:Fr) (H:LH) (F:KF):Prop:=match g with
 |some true=>XC P x d N op all prs j old fr F
 |some false=>d<N∧ckH P j all old (upd fr d undef) H prs∧F (upd fr d undef) H
 |none=>False
section
variable {cv:TypeId→TypeId→Bool} {P:Program} {E:PEnv} {Y:Option YC} {rd:Nat} {fn:Func} {k:List Item} {fr:Fr} {H H' H0:LH} {p:Option Code} {Q:PQ} {all:Array Oper} {os:List Oper} {d N:Nat} {op:Op} {ty:TypeId} {pos:String} {after:Array Edge} {v:Value} {T:Callee} {L:Loud} {K F:KF} {prs:List (Nat×Nat)} {j:Nat} {old:Nat→Fr×LH}
theorem pr_draw (hrd:rd≠3) {id:Nat} {l:List Oper} :PR P E Y rd fn (.code (.region id ⟨l⟩ true)::k) fr H p Q↔DX P E.pl (LC P E.E) fn.ntmps (E.pl.ch fn.ntmps id l.length) (E.pl.pm fn.ntmps id l.length) l fr H (fun fr' H'=>PR P E Y rd fn k fr' H' p Q):=by
 have key:(∃fr1 H1,ldraw P E.pl (LC P E.E) fn.ntmps id ⟨l⟩ fr H=some (fr1,H1)∧PR P E Y rd fn k fr1 H1 p Q)↔DX P E.pl (LC P E.E) fn.ntmps (E.pl.ch fn.ntmps id l.length) (E.pl.pm fn.ntmps id l.length) l fr H (fun fr' H'=>PR P E Y rd fn k fr' H' p Q):=by
  unfold DX ldraw drawn DPm
  rw [show(⟨l⟩:Array Oper).size=l.length from rfl]
  cases E.pl.ch fn.ntmps id l.length<;>exact Iff.rfl
 rw [←key]
 constructor
 ·rintro⟨r,H',p',h,q⟩
  cases h with
  |draw h1 h2=>exact⟨_,_,h1,_,_,_,h2,q⟩
  |drawc _ _ _ _=>exact absurd rfl hrd
 ·rintro⟨fr1,H1,h1,r,H',p',h2,q⟩
  exact⟨_,_,_,.draw h1 h2,q⟩
theorem ex_one {a b:Type} {x:a} {y:b} {K:a→b→Prop} :(∃fr' H',(some (x,y):Option (a×b))=some (fr',H')∧K fr' H')↔K x y:=by
 constructor
 ·rintro⟨_,_,e,h⟩
  injection e with e;injection e with e1 e2;subst e1 e2;exact h
 ·exact fun h=>⟨_,_,rfl,h⟩
theorem ex_non {a b:Type} {K:a→b→Prop} :(∃fr' H',(none:Option (a×b))=some (fr',H')∧K fr' H')↔False:=by
 constructor
 ·rintro⟨_,_,e,h⟩;cases e
 ·exact False.elim
theorem lx_nil:LX P T N all [] fr H K↔K fr H:=by unfold LX;simp only [lops];exact ex_one
theorem lx_cons:LX P T N all (⟨some d,op,ty,pos,after,none⟩::os) fr H K↔XS (lopxB P T op fr H) d N fr (fun fr' H'=>LX P T N all os fr' H' K):=by
 unfold LX XS;simp only [lops,lwant,lopB_x]
 cases lopxB P T op fr H with
 |none=>exact ex_non
 |some x=>
  obtain⟨v,H1⟩:=x
  simp only [lput]
  by_cases hd:d<N
  ·simp only [hd,if_true,true_and]
  ·simp only [hd,if_false,false_and];exact ex_non
theorem lx_cons0:LX P T N all (⟨none,op,ty,pos,after,none⟩::os) fr H K↔XS0 (lopxB P T op fr H) fr (fun fr' H'=>LX P T N all os fr' H' K):=by
 unfold LX XS0;simp only [lops,lwant,lopB_x]
 cases lopxB P T op fr H with
 |none=>exact ex_non
 |some x=>obtain⟨v,H1⟩:=x;simp only [lput]
theorem lx_guard {i:Nat} {want:Bool} :LX P T N all (⟨some d,op,ty,pos,after,some (i,want)⟩::os) fr H K↔XG (guardx all fr i want) (lopxB P T op fr H) d N fr H (fun fr' H'=>LX P T N all os fr' H' K):=by
 unfold LX XG;simp only [lops,lwant_x,lopB_x]
 cases guardx all fr i want with
 |none=>exact ex_non
 |some b=>
  cases b with
  |true=>
   unfold XS
   simp only
   cases lopxB P T op fr H with
   |none=>exact ex_non
   |some x=>
    obtain⟨v,H1⟩:=x
    simp only [lput]
    by_cases hd:d<N
    ·simp only [hd,if_true,true_and]
    ·simp only [hd,if_false,false_and];exact ex_non
  |false=>
   simp only [lput]
   by_cases hd:d<N
   ·simp only [hd,if_true,true_and]
   ·simp only [hd,if_false,false_and];exact ex_non
theorem lx0_nil:LX0 cv P T N all [] fr H K↔K fr H:=by unfold LX0;simp only [lops0];exact ex_one
theorem lx0_cons:LX0 cv P T N all (⟨some d,op,ty,pos,after,none⟩::os) fr H K↔XS (lopxC cv P T op fr H) d N fr (fun fr' H'=>LX0 cv P T N all os fr' H' K):=by
 unfold LX0 XS;simp only [lops0,lwant,lopC_x]
 cases lopxC cv P T op fr H with
 |none=>exact ex_non
 |some x=>
  obtain⟨v,H1⟩:=x
  simp only [lput]
  by_cases hd:d<N
  ·simp only [hd,if_true,true_and]
  ·simp only [hd,if_false,false_and];exact ex_non
theorem lx0_cons0:LX0 cv P T N all (⟨none,op,ty,pos,after,none⟩::os) fr H K↔XS0 (lopxC cv P T op fr H) fr (fun fr' H'=>LX0 cv P T N all os fr' H' K):=by
 unfold LX0 XS0;simp only [lops0,lwant,lopC_x]
 cases lopxC cv P T op fr H with
 |none=>exact ex_non
 |some x=>obtain⟨v,H1⟩:=x;simp only [lput]
theorem lx0_guard {i:Nat} {want:Bool} :LX0 cv P T N all (⟨some d,op,ty,pos,after,some (i,want)⟩::os) fr H K↔XG (guardx all fr i want) (lopxC cv P T op fr H) d N fr H (fun fr' H'=>LX0 cv P T N all os fr' H' K):=by
 unfold LX0 XG;simp only [lops0,lwant_x,lopC_x]
 cases guardx all fr i want with
 |none=>exact ex_non
 |some b=>
  cases b with
  |true=>
   unfold XS
   simp only
   cases lopxC cv P T op fr H with
   |none=>exact ex_non
   |some x=>
    obtain⟨v,H1⟩:=x
    simp only [lput]
    by_cases hd:d<N
    ·simp only [hd,if_true,true_and]
    ·simp only [hd,if_false,false_and];exact ex_non
  |false=>
   simp only [lput]
   by_cases hd:d<N
   ·simp only [hd,if_true,true_and]
   ·simp only [hd,if_false,false_and];exact ex_non
theorem mx_nil:MX P L T N all H0 [] fr H K↔K fr H:=by unfold MX;simp only [lmix];exact ex_one
theorem mx_cons:MX P L T N all H0 (⟨some d,op,ty,pos,after,none⟩::os) fr H K↔RSel (loudOp L op) (LX P T N all (⟨some d,op,ty,pos,after,none⟩::os) fr H K) (XS (lmixx P T op fr H0 H) d N fr (fun fr' H'=>MX P L T N all H0 os fr' H' K)):=by
 unfold MX RSel
 cases hl:loudOp L op with
 |true=>unfold LX;simp only [lmix,hl,if_true]
 |false=>
  unfold XS;simp only [lmix,hl,Bool.false_eq_true,if_false,lwant,lmixop_x]
  by_cases hd:d<N
  ·simp only [if_pos hd]
   cases lmixx P T op fr H0 H with
   |none=>exact ex_non
   |some x=>obtain⟨v,H1⟩:=x;simp only [hd,true_and]
  ·simp only [if_neg hd]
   cases lmixx P T op fr H0 H with
   |none=>exact ex_non
   |some x=>obtain⟨v,H1⟩:=x;simp only [hd,false_and];exact ex_non
theorem mx_cons0:MX P L T N all H0 (⟨none,op,ty,pos,after,none⟩::os) fr H K↔RSel (loudOp L op) (LX P T N all (⟨none,op,ty,pos,after,none⟩::os) fr H K) False:=by
 unfold MX RSel
 cases hl:loudOp L op with
 |true=>unfold LX;simp only [lmix,hl,if_true]
 |false=>simp [lmix,hl]
theorem mx_guard {i:Nat} {want:Bool} :MX P L T N all H0 (⟨some d,op,ty,pos,after,some (i,want)⟩::os) fr H K↔RSel (loudOp L op) (LX P T N all (⟨some d,op,ty,pos,after,some (i,want)⟩::os) fr H K) (XG (guardx all fr i want) (lmixx P T op fr H0 H) d N fr H (fun fr' H'=>MX P L T N all H0 os fr' H' K)):=by
 unfold MX RSel
 cases hl:loudOp L op with
 |true=>unfold LX;simp only [lmix,hl,if_true]
 |false=>
  unfold XG;simp only [lmix,hl,Bool.false_eq_true,if_false,lwant_x,lmixop_x]
  by_cases hd:d<N
  ·simp only [if_pos hd]
   cases guardx all fr i want with
   |none=>exact ex_non
   |some b=>
    cases b with
    |true=>
     unfold XS
     simp only
     cases lmixx P T op fr H0 H with
     |none=>exact ex_non
     |some x=>obtain⟨v,H1⟩:=x;simp only [hd,true_and]
    |false=>simp only [hd,true_and]
  ·simp only [if_neg hd]
   cases guardx all fr i want with
   |none=>exact ex_non
   |some b=>
    cases b with
    |true=>
     unfold XS
     simp only
     cases lmixx P T op fr H0 H with
     |none=>exact ex_non
     |some x=>obtain⟨v,H1⟩:=x;simp only [hd,false_and];exact ex_non
    |false=>simp only [hd,false_and];exact ex_non
theorem cx_none:CX cv P T N all [] j old os fr H K↔LX0 cv P T N all os fr H K:=by unfold CX LX0;rw [lchain_nil (cv:=⟨cv⟩) (j:=j) (old:=old)]
theorem cx_nil:CX cv P T N all prs j old [] fr H K↔K fr H:=by unfold CX;simp only [lchain];exact ex_one
theorem cx_cons:CX cv P T N all prs j old (⟨some d,op,ty,pos,after,none⟩::os) fr H K↔XC P (lopxC cv P T op fr H) d N op all prs j old fr (fun fr' H'=>CX cv P T N all prs (j+1) (oldS old j (fr,H)) os fr' H' K):=by
 unfold CX XC;simp only [lchain,lwant_no]
 rw [show lopxC cv P T op fr H=@lopC ⟨cv⟩ P T ⟨some d,op,ty,pos,after,none⟩ fr H from rfl]
 cases @lopC ⟨cv⟩ P T ⟨some d,op,ty,pos,after,none⟩ fr H with
 |none=>exact ex_non
 |some x=>
  obtain⟨v,H1⟩:=x
  simp only [lput]
  by_cases hd:d<N
  ·simp only [hd,if_true,true_and]
   have e1:=ckR_iff (P:=P) (op:=op) (fr:=fr) (old:=old) (j:=j) (v:=v) (ty:=ty) (pos:=pos) (after:=after) (some d) none (prs:=prs)
   by_cases hc:ckR P j op fr old v prs∧ckH P j all old (upd fr d v) H1 prs
   ·rw [if_pos (And.intro (e1.1 hc.1) (ckH_iff.1 hc.2))]
    simp only [hc,true_and]
    exact Iff.rfl
   ·rw [if_neg (fun h=>hc (And.intro (e1.2 (And.left h)) (ckH_iff.2 (And.right h))))]
    exact⟨fun h=>(ex_non.1 h).elim,fun⟨h1,h2,_⟩=>absurd ⟨h1,h2⟩ hc⟩
  ·simp only [hd,if_false,false_and];exact ex_non
theorem cx_cons0:CX cv P T N all prs j old (⟨none,op,ty,pos,after,none⟩::os) fr H K↔XC0 P (lopxC cv P T op fr H) op all prs j old fr (fun fr' H'=>CX cv P T N all prs (j+1) (oldS old j (fr,H)) os fr' H' K):=by
 unfold CX XC0;simp only [lchain,lwant_no]
 rw [show lopxC cv P T op fr H=@lopC ⟨cv⟩ P T ⟨none,op,ty,pos,after,none⟩ fr H from rfl]
 cases @lopC ⟨cv⟩ P T ⟨none,op,ty,pos,after,none⟩ fr H with
 |none=>exact ex_non
 |some x=>
  obtain⟨v,H1⟩:=x
  simp only [lput]
  have e1:=ckR_iff (P:=P) (op:=op) (fr:=fr) (old:=old) (j:=j) (v:=v) (ty:=ty) (pos:=pos) (after:=after) none none (prs:=prs)
  by_cases hc:ckR P j op fr old v prs∧ckH P j all old fr H1 prs
  ·rw [if_pos (And.intro (e1.1 hc.1) (ckH_iff.1 hc.2))]
   simp only [hc,true_and]
   exact Iff.rfl
  ·rw [if_neg (fun h=>hc (And.intro (e1.2 (And.left h)) (ckH_iff.2 (And.right h))))]
   exact⟨fun h=>(ex_non.1 h).elim,fun⟨h1,h2,_⟩=>absurd ⟨h1,h2⟩ hc⟩
theorem cx_guard {g:Nat} {want:Bool} :CX cv P T N all prs j old (⟨some d,op,ty,pos,after,some (g,want)⟩::os) fr H K↔XCG P (guardx all fr g want) (lopxC cv P T op fr H) d N op all prs j old fr H (fun fr' H'=>CX cv P T N all prs (j+1) (oldS old j (fr,H)) os fr' H' K):=by
 unfold CX XCG;simp only [lchain,lwant_x]
 cases guardx all fr g want with
 |none=>exact ex_non
 |some b=>
  cases b with
  |true=>
   simp only [XC]
   rw [show lopxC cv P T op fr H=@lopC ⟨cv⟩ P T ⟨some d,op,ty,pos,after,some (g,want)⟩ fr H from rfl]
   cases @lopC ⟨cv⟩ P T ⟨some d,op,ty,pos,after,some (g,want)⟩ fr H with
   |none=>exact ex_non
   |some x=>
    obtain⟨v,H1⟩:=x
    simp only [lput]
    by_cases hd:d<N
    ·simp only [hd,if_true,true_and]
     have e1:=ckR_iff (P:=P) (op:=op) (fr:=fr) (old:=old) (j:=j) (v:=v) (ty:=ty) (pos:=pos) (after:=after) (some d) (some (g,want)) (prs:=prs)
     by_cases hc:ckR P j op fr old v prs∧ckH P j all old (upd fr d v) H1 prs
     ·rw [if_pos (And.intro (e1.1 hc.1) (ckH_iff.1 hc.2))]
      simp only [hc,true_and]
      exact Iff.rfl
     ·rw [if_neg (fun h=>hc (And.intro (e1.2 (And.left h)) (ckH_iff.2 (And.right h))))]
      exact⟨fun h=>(ex_non.1 h).elim,fun⟨h1,h2,_⟩=>absurd ⟨h1,h2⟩ hc⟩
    ·simp only [hd,if_false,false_and];exact ex_non
  |false=>
   simp only [lput]
   by_cases hd:d<N
   ·simp only [hd,if_true,true_and]
    by_cases hc:ckH P j all old (upd fr d undef) H prs
    ·rw [if_pos (ckH_iff.1 hc)]
     simp only [hc,true_and]
     exact Iff.rfl
    ·rw [if_neg (fun h=>hc (ckH_iff.2 h))]
     exact⟨fun h=>(ex_non.1 h).elim,fun⟨h1,_⟩=>absurd h1 hc⟩
   ·simp only [hd,if_false,false_and];exact ex_non
theorem dx_none {p:List Nat} {l:List Oper} :DX P L T N none p l fr H K↔MX P L T N ⟨l⟩ H l fr H K:=Iff.rfl
theorem dx_some {l:List Oper} :DX P L T N (some prs) [] l fr H K↔CX L.cv P T N ⟨l⟩ prs 0 (fun _=>(fr,H)) l fr H K:=Iff.rfl
theorem dx_perm {a:Nat} {p:List Nat} {l:List Oper} :DX P L T N (some prs) (a::p) l fr H K↔DPm P L T N prs (pmap (a::p) l (a::p)) fr H K:=Iff.rfl
theorem dpm_go {o:Oper} {l:List Oper} :DPm P L T N prs (o::l) fr H K↔CX L.cv P T N ⟨o::l⟩ prs 0 (fun _=>(fr,H)) (o::l) fr H K:=Iff.rfl
attribute [simp ↓] pr_draw dx_none dx_some dx_perm dpm_go lx_nil lx_cons lx_cons0 lx_guard lx0_nil lx0_cons lx0_cons0 lx0_guard mx_nil mx_cons mx_cons0 mx_guard cx_none cx_nil cx_cons cx_cons0 cx_guard
@[congr] theorem dx_congr {x y:Option (List (Nat×Nat))} {p q:List Nat} {l:List Oper} (h:x=y) (g:p=q):DX P L T N x p l fr H K=DX P L T N y q l fr H K:=by rw [h,g]
@[congr] theorem dpm_congr {l l':List Oper} (h:l=l'):DPm P L T N prs l fr H K=DPm P L T N prs l' fr H K:=by rw [h]
@[congr] theorem xs_congr {x y:Option (Value×LH)} (h:x=y):XS x d N fr F=XS y d N fr F:=by rw [h]
@[congr] theorem xs0_congr {x y:Option (Value×LH)} (h:x=y):XS0 x fr F=XS0 y fr F:=by rw [h]
@[congr] theorem xg_congr {g g':Option Bool} {x:Option (Value×LH)} (h:g=g'):XG g x d N fr H F=XG g' x d N fr H F:=by rw [h]
@[congr] theorem xc_congr {x y:Option (Value×LH)} (h:x=y):XC P x d N op all prs j old fr F=XC P y d N op all prs j old fr F:=by rw [h]
@[congr] theorem xc0_congr {x y:Option (Value×LH)} (h:x=y):XC0 P x op all prs j old fr F=XC0 P y op all prs j old fr F:=by rw [h]
@[congr] theorem xcg_congr {g g':Option Bool} {x:Option (Value×LH)} (h:g=g'):XCG P g x d N op all prs j old fr H F=XCG P g' x d N op all prs j old fr H F:=by rw [h]
@[simp] theorem xs_some:XS (some (v,H)) d N fr F↔d<N∧F (upd fr d v) H:=Iff.rfl
@[simp] theorem xs_none:XS none d N fr F↔False:=Iff.rfl
@[simp] theorem xs0_some:XS0 (some (v,H)) fr F↔F fr H:=Iff.rfl
@[simp] theorem xs0_none:XS0 none fr F↔False:=Iff.rfl
@[simp] theorem xg_true {x:Option (Value×LH)} :XG (some true) x d N fr H F↔XS x d N fr F:=Iff.rfl
@[simp] theorem xg_false {x:Option (Value×LH)} :XG (some false) x d N fr H F↔d<N∧F (upd fr d undef) H:=Iff.rfl
@[simp] theorem xc_some:XC P (some (v,H)) d N op all prs j old fr F↔d<N∧ckR P j op fr old v prs∧ckH P j all old (upd fr d v) H prs∧F (upd fr d v) H:=Iff.rfl
@[simp] theorem xc_none:XC P none d N op all prs j old fr F↔False:=Iff.rfl
@[simp] theorem xc0_some:XC0 P (some (v,H)) op all prs j old fr F↔ckR P j op fr old v prs∧ckH P j all old fr H prs∧F fr H:=Iff.rfl
@[simp] theorem xc0_none:XC0 P none op all prs j old fr F↔False:=Iff.rfl
@[simp] theorem xcg_true {x:Option (Value×LH)} :XCG P (some true) x d N op all prs j old fr H F↔XC P x d N op all prs j old fr F:=Iff.rfl
@[simp] theorem xcg_false {x:Option (Value×LH)} :XCG P (some false) x d N op all prs j old fr H F↔d<N∧ckH P j all old (upd fr d undef) H prs∧F (upd fr d undef) H:=Iff.rfl
end
def lift1 (n:Nat):Value→Value
 |.pointer (some ⟨l,o,none⟩)=>if l<n then .pointer (some ⟨l,o,none⟩)else unk
 |.slice (some ⟨l,o,none⟩) k c=>if l<n∧k≤c then .slice (some ⟨l,o,none⟩) k c else if k=0∧c=0∧0<n then .slice (some ⟨0,0,none⟩) 0 0 else unk
 |.slice (some ⟨_,_,some _⟩) k c=>if k=0∧c=0∧0<n then .slice (some ⟨0,0,none⟩) 0 0 else unk
 |v=>if atomB v then v else unk
def liftV (n:Nat):Value→Value
 |.agg cs=>.agg (cs.map (lift1 n))
 |v=>lift1 n v
def liftB (n:Nat):Option Obj→Option LB
 |some (.cells arr t _)=>some ⟨arr.toList.map (lift1 n),t,false⟩
 |_=>none
def LH.lift (w:World) (g:Nat):LH:=⟨w.heap.size,fun l=>liftB w.heap.size w.heap[l]?,fun _=>False,w,g⟩
def renI:Ren:=fun l=>⟨l,0,0⟩
theorem atom_flat {v:Value} (h:atomB v=true):flatB v=true:=by
 cases v<;>first|exact h|(simp [atomB]at h)
section
variable {P:Program} {E:Ext} {H H':LH} {w w':World} {v v':Value} {g:Nat}
theorem lift_D {l:Nat} :(LH.lift w g).D l↔l<w.heap.size:=⟨fun h=>h.1,fun h=>⟨h,fun h=>h⟩⟩
theorem lift1_vr (v:Value):VR (LH.lift w g).D renI (lift1 w.heap.size v) v:=by
 unfold lift1
 split
 ·rename_i l o
  split
  ·have:=VR.ptr (n:=(LH.lift w g).D) (ι:=renI) l o (lift_D.2 ‹_›)
   simpa [renI]using this
  ·exact .any _
 ·rename_i l o k c
  split
  ·rename_i h
   have:=VR.slice (n:=(LH.lift w g).D) (ι:=renI) l o k c (lift_D.2 h.1) h.2
   simpa [renI]using this
  ·split
   ·rename_i h;obtain⟨rfl,rfl,h⟩:=h;exact .slice0 0 0 _ (lift_D.2 h)
   ·exact .any _
 ·split
  ·rename_i h;obtain⟨rfl,rfl,h⟩:=h;exact .slice0 0 0 _ (lift_D.2 h)
  ·exact .any _
 ·split
  ·exact .flat _ (atom_flat ‹_›)
  ·exact .any _
theorem liftV_vr (v:Value):VR (LH.lift w g).D renI (liftV w.heap.size v) v:=by
 unfold liftV
 split
 ·refine .agg _ _ (by simp) (fun i x y hx hy=>?_)
  rw [Array.getElem?_map,hy]at hx
  simp only [Option.map_some,Option.some.injEq]at hx
  subst hx
  exact lift1_vr y
 ·exact lift1_vr _
theorem rel_lift (hg:g≤w.heap.size):Rel P (LH.lift w g) renI w:=by
 have hno: ∀k,¬RW (LH.lift w g) renI k:=by
  rintro k ⟨l,b,hb,hr,_⟩
  have hb':liftB w.heap.size w.heap[l]?=some b:=hb
  unfold liftB at hb'
  split at hb'
  ·simp only [Option.some.injEq]at hb';subst hb';cases hr
  ·cases hb'
 refine⟨fun l hl=>?_,fun _ h=>h.elim,fun l b hb=>?_,fun l l' b b' hb _ hr=>?_,fun k hk=>⟨rfl,Nat.lt_of_lt_of_le hk hg,hno k⟩⟩
 ·show liftB _ _=none
  rw [Array.getElem?_eq_none hl];rfl
 ·have hb':liftB w.heap.size w.heap[l]?=some b:=hb
  unfold liftB at hb'
  split at hb'
  ·rename_i arr t fr hw
   simp only [Option.some.injEq]at hb'
   subst hb'
   refine⟨arr,t,fr,hw,by simp [renI],fun i x hx=>?_,fun h=>by cases h⟩
   simp only [List.getElem?_map,Option.map_eq_some_iff]at hx
   obtain⟨y,hy,rfl⟩:=hx
   exact⟨y,by simpa [renI]using hy,lift1_vr y⟩
  ·cases hb'
 ·exact absurd ⟨l,b,hb,hr,rfl⟩ (hno (renI l).blk)
theorem law_lift {f:FuncId} {args:Array Value} {ng:Nat} (hT:TOk P (LC P E)) (hng:ng≤w.heap.size) (h:LC P E f (args.toList.map (liftV w.heap.size)) (LH.lift w ng)=some (.bool true,H')) (he:Entered P f:=by exact⟨_,rfl,rfl,by decide⟩):
  Calls P f args w fun e w'=>e=.returned (.bool true)∧Change (fun _=>False) w w':=by
 have hc:=(hT _ _ _ _ _ h).call he
 refine(hc renI w args (rel_lift hng) (by simp) (fun i x y hx hy=>?_)).mono ?_
 ·rw [List.getElem?_map,Array.getElem?_toList]at hx
  rw [hy]at hx
  simp only [Option.map_some,Option.some.injEq]at hx
  subst hx
  exact liftV_vr y
 ·rintro e w' ⟨ι',v',rfl,ho,hv⟩
  rw [flat_eq hv rfl]
  refine⟨rfl,ho.chg.mono ?_⟩
  rintro k-⟨l,b,hb,hr,_⟩
  have hb':liftB w.heap.size w.heap[l]?=some b:=hb
  unfold liftB at hb'
  split at hb'
  ·simp only [Option.some.injEq]at hb';subst hb';cases hr
  ·cases hb'
@[simp] theorem lift_str {n:Nat} {s:ByteArray} :lift1 n (.string s)=.string s:=rfl
@[simp] theorem lift_int {n:Nat} {k:IntKind} {i:Int} :lift1 n (.int k i)=.int k i:=rfl
@[simp] theorem lift_bool {n:Nat} {b:Bool} :lift1 n (.bool b)=.bool b:=rfl
def RowOf {α:Type} (H:LH) (s:Nat) (El:α→List Value→Prop) (v:Value) (xs:List α):Prop:=
 (v=.slice none 0 0∧xs= [])∨ ∃l o c,v=.slice (some ⟨l,o,none⟩) xs.length c∧xs.length≤c∧l<H.n∧(xs≠ []→ ∃b,H.get l=some b∧o+xs.length*s≤b.cells.length∧ ∀i x,xs[i]?=some x→El x ((b.cells.drop (o+i*s)).take s))
variable {HH:Type} {enc:TypeId×Value→HH}
theorem cells_lift {a:Addr} {k:Nat} {cs:List Value} {b0:Nat} (hk:0<k) (h:w.cells? b0 a k=some cs): ∃l o arr t f,a=⟨l,o,none⟩∧w.heap[l]?=some (.cells arr t f)∧cs=(arr.toList.drop o).take k∧o+k≤arr.size:=by
 unfold World.cells? at h
 split at h
 ·have hlen:cs.length=k:=by simpa using Lib.mapM_length h
  have hi: ∀i,i<k→cs[i]?=w.cell? (a.add i):=fun i hi=>mapM_get h i i (by simp [hi])
  have e0:=hi 0 hk
  have hsome: ∀i,i<k→ ∃x,cs[i]?=some x:=fun i hi=>⟨_,List.getElem?_eq_getElem (by omega)⟩
  obtain⟨x0,hx0⟩:=hsome 0 hk
  obtain⟨l,o,sp⟩:=a
  rw [hx0]at e0
  simp only [Addr.add,if_pos,World.cell?]at e0
  split at e0
  ·rename_i arr t f hw
   split at e0
   ·cases e0
   ·rename_i hsp
    have hsp':sp=none:=by cases sp with|none=>rfl|some x=>simp at hsp
    subst hsp'
    have hc: ∀i,i<k→cs[i]?=arr[o+i]?:=fun i h2=>by
     rw [hi i h2]
     unfold Addr.add
     split
     ·rename_i h0;subst h0;simp [World.cell?,hw]
     ·simp [World.cell?,hw]
    have hsz:o+k≤arr.size:=by
     obtain⟨x,hx⟩:=hsome (k-1) (by omega)
     rw [hc (k-1) (by omega)]at hx
     have:=(Array.getElem?_eq_some_iff.1 hx).1
     omega
    refine⟨l,o,arr,t,f,rfl,hw,?_,hsz⟩
    apply List.ext_getElem?
    intro i
    rw [List.getElem?_take]
    split
    ·rename_i h2;rw [hc i h2,List.getElem?_drop];simp
    ·rw [List.getElem?_eq_none (by omega)]
  ·cases e0
 ·cases h
theorem lift_block {l:Nat} {arr:Array Value} {t:TypeId} {f:Nat×Nat} (h:w.heap[l]?=some (.cells arr t f)):(LH.lift w g).get l=some ⟨arr.toList.map (lift1 w.heap.size),t,false⟩:=by
 show liftB _ _=_
 rw [h];rfl
theorem row_of_trod {α:Type} {El:α→List Value→Prop} {t e:TypeId} {base fuel s:Nat} {held:Bool} {cs:List Value} {x:DataW HH×List MemPlace} (ht:P.underlying t=some (.slice e)) (hs:P.cellsOf e=s) (h0:0<s) (hw0:0<w.heap.size)
  (hel: ∀fuel cs y,DataW.trod enc P w base (fun _=>true) held fuel e cs=some y→ ∃a,El a (cs.map (lift1 w.heap.size)))
  (h:DataW.trod enc P w base (fun _=>true) held fuel t cs=some x): ∃v xs,cs= [v]∧RowOf (LH.lift w g) s El (lift1 w.heap.size v) xs∧xs.length≤maxLen:=by
 rcases DataW.trod_slice ht h with⟨rfl,rfl⟩|⟨a,len,cap,elems,rest,n,_,rfl,rfl,_,hl,hm,hlen,hat,hrest,_⟩
 ·exact⟨_,[],rfl,.inl ⟨rfl,rfl⟩,Nat.zero_le _⟩
 ·rw [hs]at hat hrest
  obtain⟨hr1,hr2⟩:=hrest rfl
  have hcell: ∀i,i<len→ ∃cs' y,w.cells? base (a.add (i*s)) s=some cs'∧DataW.trod enc P w base (fun _=>true) held n e cs'=some y:=fun i hi=>by
   have:=hat i hi
   rw [List.getElem?_eq_getElem (by omega)]at this
   obtain⟨cs',h1,h2⟩:=Option.bind_eq_some_iff.1 this
   exact⟨cs',_,h1,h2⟩
  have hmem: ∀i,i<cap→ ∃cs',w.cells? base (a.add (i*s)) s=some cs':=fun i hi=>by
   rcases Nat.lt_or_ge i len with h1|h1
   ·obtain⟨cs',_,h,_⟩:=hcell i h1;exact⟨cs',h⟩
   ·have:=hr2 (i-len) (by omega)
    rw [List.getElem?_eq_getElem (by omega),show len+(i-len)=i by omega]at this
    obtain⟨cs',h1,h2⟩:=Option.bind_eq_some_iff.1 this
    exact⟨cs',h1⟩
  have hex: ∀i:Fin len,∃x:α,∀cs',w.cells? base (a.add (i.1*s)) s=some cs'→El x (cs'.map (lift1 w.heap.size)):=fun i=>by
   obtain⟨cs',y,h1,h2⟩:=hcell i.1 i.2
   obtain⟨x,hx⟩:=hel n cs' y h2
   exact⟨x,fun cs2 h3=>by rw [h1]at h3;injection h3 with h3;subst h3;exact hx⟩
  refine⟨_,List.ofFn (fun i=>Classical.choose (hex i)),rfl,?_,by simp;omega⟩
  rcases Nat.eq_zero_or_pos cap with hc|hc
  ·subst hc
   obtain rfl:len=0:=by omega
   refine .inr ?_
   have: ∃l o,lift1 w.heap.size (.slice (some a) 0 0)=.slice (some ⟨l,o,none⟩) 0 0∧l<w.heap.size:=by
    obtain⟨l,o,sp⟩:=a
    cases sp with
    |none=>
     simp only [lift1]
     split
     ·exact⟨l,o,rfl,And.left ‹_›⟩
     ·rw [if_pos (by simp [hw0])];exact⟨0,0,rfl,hw0⟩
    |some q=>simp only [lift1];rw [if_pos (by simp [hw0])];exact⟨0,0,rfl,hw0⟩
   obtain⟨l,o,e1,h1⟩:=this
   exact⟨l,o,0,by simpa using e1,by simp,h1,fun hne=>by simp at hne⟩
  ·obtain⟨cs0,h00⟩:=hmem 0 hc
   rw [Nat.zero_mul,show a.add 0=a from rfl]at h00
   obtain⟨l,o,arr,t,f,rfl,hw,_,_⟩:=cells_lift h0 h00
   have hlt:l<w.heap.size:=(Array.getElem?_eq_some_iff.1 hw).1
   refine .inr ⟨l,o,cap,by simp [lift1,hlt,hl],by simpa using hl,hlt,fun hne=>⟨_,lift_block hw,?_,fun i y hy=>?_⟩⟩
   ·have hlen0:0<len:=by
     rcases Nat.eq_zero_or_pos len with h1|h1
     ·subst h1;simp at hne
     ·exact h1
    obtain⟨cs',y,h1,_⟩:=hcell (len-1) (by omega)
    obtain⟨l',o',arr',t',f',ea,hw',_,hsz⟩:=cells_lift h0 h1
    have:l'=l∧o'=o+(len-1)*s:=by
     unfold Addr.add at ea
     split at ea
     ·rename_i hz;injection ea with e1 e2;exact⟨e1.symm,by omega⟩
     ·injection ea with e1 e2;exact⟨e1.symm,e2.symm⟩
    obtain⟨rfl,rfl⟩:=this
    rw [hw]at hw'
    injection hw' with hw'
    injection hw' with e1
    subst e1
    have e2:len*s=(len-1)*s+s:=by
     obtain⟨m,rfl⟩: ∃m,len=m+1:=⟨len-1,by omega⟩
     rw [Nat.add_sub_cancel,Nat.succ_mul]
    simp;omega
   ·have hi:i<len:=by have:=(List.getElem?_eq_some_iff.1 hy).1;simpa using this
    obtain⟨cs',y',h1,_⟩:=hcell i hi
    have hch:=Classical.choose_spec (hex ⟨i,hi⟩) cs' h1
    have hy':y=Classical.choose (hex ⟨i,hi⟩):=by
     rw [List.getElem?_ofFn]at hy
     simpa [hi]using hy.symm
    rw [hy']
    obtain⟨l',o',arr',t',f',ea,hw',hcs,hsz⟩:=cells_lift h0 h1
    have:l'=l∧o'=o+i*s:=by
     unfold Addr.add at ea
     split at ea
     ·rename_i hz;injection ea with e1 e2;exact⟨e1.symm,by omega⟩
     ·injection ea with e1 e2;exact⟨e1.symm,e2.symm⟩
    obtain⟨rfl,rfl⟩:=this
    rw [hw]at hw'
    injection hw' with hw'
    injection hw' with e1
    subst e1
    subst hcs
    rw [List.map_take,List.map_drop]at hch
    exact hch
end
section
variable {P:Program} {E:PEnv} {Y:Option YC} {rd:Nat} {fn:Func} {k:List Item} {fr:Fr} {H H' H0:LH} {p:Option Code} {Q:PQ} {w:World}
theorem pr_rangeF {x:Operand} {params:Array Tmp} {assign body:Code} {g:FuncId} {caps:Array Value} {gfn:Func} {gc:Code} (hx:ev fr x=.func (.func g) #[] caps) (hf:fnOk P E g gfn gc (tok H.n::caps.toList))
  (h:PR P E (some ⟨H.n,fn,fr,params.toList,assign,body⟩) 0 gfn [.code gc] (enter (tok H.n::caps.toList)) H.dead none (fun r H1 p1=>(∃v,r=.ret v)∧PR P E Y rd fn ((p1.map Item.code).toList++k) fr H1 p Q)):PR P E Y rd fn (.code (.rangeFunc x params assign body)::k) fr H p Q:=by
 obtain⟨r,H1,p1,h1,⟨v,rfl⟩,r2,H2,p2,h2,q⟩:=h
 exact⟨_,_,_,.rangeF hx hf h1 h2,q⟩
theorem pr_rangeE {x:Operand} {params:Array Tmp} {assign body:Code} {g:FuncId} {caps:Array Value} {gfn:Func} (hx:ev fr x=.func (.func g) #[] caps)
  (h: ∃gc,fnOk P E g gfn gc (tok H.n::caps.toList)∧PR P E (some ⟨H.n,fn,fr,params.toList,assign,body⟩) 0 gfn [.code gc] (enter (tok H.n::caps.toList)) H.dead none (fun r H1 p1=>(∃v,r=.ret v)∧PR P E Y rd fn ((p1.map Item.code).toList++k) fr H1 p Q)):PR P E Y rd fn (.code (.rangeFunc x params assign body)::k) fr H p Q:=by
 obtain⟨gc,hf,h⟩:=h
 exact pr_rangeF hx hf h
theorem pr_begin (h:PR P E none 2 fn k fr H none (fun r H' p'=>p'=none∧Q r H' none)):PR P E none 1 fn (.beginRound::k) fr H none Q:=by
 obtain⟨r,H',p',h,rfl,q⟩:=h
 exact⟨_,_,_,.beg h,q⟩
theorem round_of {Post:Option Code→LH→Prop} (h:PR P E none 1 fn k fr H none (fun r H1 p'=>p'=none∧ ∃j,r=.jump j∧Post j H1)): ∃j H1,R P E (.run none 1 fn k fr H none (.jump j) H1 none)∧Post j H1:=by
 obtain⟨r,H',p',h,rfl,j,rfl,q⟩:=h
 exact⟨_,_,h,q⟩
@[simp] theorem lopx_mkf0 {T:Callee} {f:FuncId} {c:List Operand} :lopx P T (.makeFunc (.func f) #[] ⟨c⟩) fr H=some (.func (.func f) #[] ⟨c.map (ev fr)⟩,H):=by
 show some (Value.func (.func f) ((#[]:Array Operand).map (ev fr)) ((⟨c⟩:Array Operand).map (ev fr)),H)=_
 simp
@[simp] theorem lopx_mkf1 {T:Callee} {f:FuncId} {x:Operand} :lopx P T (.makeFunc (.func f) ⟨[x]⟩ #[]) fr H=some (.func (.func f) ⟨[ev fr x]⟩ #[],H):=by
 show some (Value.func (.func f) ((⟨[x]⟩:Array Operand).map (ev fr)) ((#[]:Array Operand).map (ev fr)),H)=_
 simp
@[simp] theorem lcallee_first {T:Callee} {g:FuncId} {a:Value} {args:List Value} :lcallee P T (.func (.func g) ⟨[a]⟩ #[]) args H=T g (a::args) H:=by
 show T g ([a]++args++(#[]:Array Value).toList) H=_
 simp
@[simp] theorem lcallee_caps {T:Callee} {g:FuncId} {a:Value} {c args:List Value} :lcallee P T (.func (.func g) #[] ⟨a::c⟩) args H=T g (args++a::c) H:=rfl
theorem trunc_no {v:Value} (h:flatB v=false):trunc H (v,H')=(v,H'):=by
 rcases trunc_or v H H' with e|⟨_,e,_⟩
 ·exact e
 ·rw [h]at e;cases e
end
end Go.Lg
namespace Go.Proofs.YtcgiaiimbnoknaaGreatDoor
open Go.Lg
set_option linter.all false
@[simp] theorem ft0:sz Tryz.prog 0=some 1∧zr Tryz.prog 0=some (.tuple #[])∧lesz Tryz.prog 0=some 1:=by and_intros<;>kernel_rfl
@[simp] theorem ft2:sz Tryz.prog 2=some 1∧aggB Tryz.prog 2=some false∧zr Tryz.prog 2=some (.int .i64 0)∧lesz Tryz.prog 2=some 1:=by and_intros<;>kernel_rfl
@[simp] theorem ft3:sz Tryz.prog 3=some 1∧aggB Tryz.prog 3=some false∧zr Tryz.prog 3=some (.int .i64 0)∧lesz Tryz.prog 3=some 1:=by and_intros<;>kernel_rfl
@[simp] theorem ft4:sz Tryz.prog 4=some 1∧aggB Tryz.prog 4=some false∧zr Tryz.prog 4=some (.bool false)∧lesz Tryz.prog 4=some 1:=by and_intros<;>kernel_rfl
@[simp] theorem ft5:sz Tryz.prog 5=some 1∧aggB Tryz.prog 5=some false∧zr Tryz.prog 5=some (.int .u8 0)∧lesz Tryz.prog 5=some 1:=by and_intros<;>kernel_rfl
@[simp] theorem ft6:sz Tryz.prog 6=some 1∧aggB Tryz.prog 6=some false∧zr Tryz.prog 6=some (.int .u8 0)∧lesz Tryz.prog 6=some 1:=by and_intros<;>kernel_rfl
@[simp] theorem ft7:plcB Tryz.prog 7=true∧fldi Tryz.prog 7 0=some (0,1,false)∧fldi Tryz.prog 7 1=some (1,1,false)∧fldi Tryz.prog 7 2=some (2,1,false)∧fldi Tryz.prog 7 3=some (3,1,false)∧sz Tryz.prog 7=some 4∧aggB Tryz.prog 7=some true∧zr Tryz.prog 7=some (.agg #[.int .i64 0,.int .i64 0,.bool false,.int .u8 0])∧lesz Tryz.prog 7=some 4:=by and_intros<;>kernel_rfl
@[simp] theorem ft8:plcB Tryz.prog 8=true∧fldi Tryz.prog 8 0=some (0,1,false)∧fldi Tryz.prog 8 1=some (1,1,false)∧fldi Tryz.prog 8 2=some (2,1,false)∧fldi Tryz.prog 8 3=some (3,1,false)∧sz Tryz.prog 8=some 4∧aggB Tryz.prog 8=some true∧zr Tryz.prog 8=some (.agg #[.int .i64 0,.int .i64 0,.bool false,.int .u8 0])∧lesz Tryz.prog 8=some 4:=by and_intros<;>kernel_rfl
@[simp] theorem ft9:sz Tryz.prog 9=some 1∧aggB Tryz.prog 9=some false∧zr Tryz.prog 9=some (.string ⟨#[]⟩)∧lesz Tryz.prog 9=some 1:=by and_intros<;>kernel_rfl
@[simp] theorem ft10:sz Tryz.prog 10=some 1∧aggB Tryz.prog 10=some false∧zr Tryz.prog 10=some (.string ⟨#[]⟩)∧lesz Tryz.prog 10=some 1:=by and_intros<;>kernel_rfl
@[simp] theorem ft11:sz Tryz.prog 11=some 1∧aggB Tryz.prog 11=some false∧zr Tryz.prog 11=some (.string ⟨#[]⟩)∧lesz Tryz.prog 11=some 1:=by and_intros<;>kernel_rfl
@[simp] theorem ft12:sz Tryz.prog 12=some 1∧aggB Tryz.prog 12=some false∧zr Tryz.prog 12=some (.int .u64 0)∧lesz Tryz.prog 12=some 1:=by and_intros<;>kernel_rfl
@[simp] theorem ft13:plcB Tryz.prog 13=true∧fldi Tryz.prog 13 0=some (0,1,false)∧fldi Tryz.prog 13 1=some (1,1,false)∧sz Tryz.prog 13=some 2∧aggB Tryz.prog 13=some true∧zr Tryz.prog 13=some (.agg #[.string ⟨#[]⟩,.int .u64 0])∧lesz Tryz.prog 13=some 2:=by and_intros<;>kernel_rfl
@[simp] theorem ft14:plcB Tryz.prog 14=true∧fldi Tryz.prog 14 0=some (0,1,false)∧fldi Tryz.prog 14 1=some (1,1,false)∧sz Tryz.prog 14=some 2∧aggB Tryz.prog 14=some true∧zr Tryz.prog 14=some (.agg #[.string ⟨#[]⟩,.int .u64 0])∧lesz Tryz.prog 14=some 2:=by and_intros<;>kernel_rfl
@[simp] theorem ft15:sz Tryz.prog 15=some 1∧aggB Tryz.prog 15=some false∧zr Tryz.prog 15=some (.pointer none)∧lesz Tryz.prog 15=some 1:=by and_intros<;>kernel_rfl
@[simp] theorem ft16:sz Tryz.prog 16=some 1∧aggB Tryz.prog 16=some false∧zr Tryz.prog 16=some (.pointer none)∧lesz Tryz.prog 16=some 1:=by and_intros<;>kernel_rfl
@[simp] theorem ft17:sz Tryz.prog 17=some 1∧aggB Tryz.prog 17=some false∧zr Tryz.prog 17=some (.pointer none)∧lesz Tryz.prog 17=some 1:=by and_intros<;>kernel_rfl
@[simp] theorem ft18:plcB Tryz.prog 18=true∧fldi Tryz.prog 18 0=some (0,1,false)∧sz Tryz.prog 18=some 1∧aggB Tryz.prog 18=some true∧zr Tryz.prog 18=some (.agg #[.pointer none])∧lesz Tryz.prog 18=some 1:=by and_intros<;>kernel_rfl
@[simp] theorem ft19:plcB Tryz.prog 19=true∧fldi Tryz.prog 19 0=some (0,1,false)∧sz Tryz.prog 19=some 1∧aggB Tryz.prog 19=some true∧zr Tryz.prog 19=some (.agg #[.pointer none])∧lesz Tryz.prog 19=some 1:=by and_intros<;>kernel_rfl
@[simp] theorem ft21:sz Tryz.prog 21=some 1∧aggB Tryz.prog 21=some false∧zr Tryz.prog 21=some (.int .i32 0)∧lesz Tryz.prog 21=some 1:=by and_intros<;>kernel_rfl
@[simp] theorem ft22:sz Tryz.prog 22=some 1∧aggB Tryz.prog 22=some false∧zr Tryz.prog 22=some (.slice none 0 0)∧lesz Tryz.prog 22=some 1:=by and_intros<;>kernel_rfl
@[simp] theorem ft23:plcB Tryz.prog 23=true∧fldi Tryz.prog 23 0=some (0,1,false)∧fldi Tryz.prog 23 1=some (1,1,false)∧sz Tryz.prog 23=some 2∧aggB Tryz.prog 23=some true∧zr Tryz.prog 23=some (.agg #[.int .i64 0,.slice none 0 0])∧lesz Tryz.prog 23=some 2:=by and_intros<;>kernel_rfl
@[simp] theorem ft24:plcB Tryz.prog 24=true∧fldi Tryz.prog 24 0=some (0,1,false)∧fldi Tryz.prog 24 1=some (1,1,false)∧sz Tryz.prog 24=some 2∧aggB Tryz.prog 24=some true∧zr Tryz.prog 24=some (.agg #[.int .i64 0,.slice none 0 0])∧lesz Tryz.prog 24=some 2:=by and_intros<;>kernel_rfl
@[simp] theorem ft25:sz Tryz.prog 25=some 1∧aggB Tryz.prog 25=some false∧zr Tryz.prog 25=some (.pointer none)∧lesz Tryz.prog 25=some 1:=by and_intros<;>kernel_rfl
@[simp] theorem ft26:sz Tryz.prog 26=some 1∧aggB Tryz.prog 26=some false∧zr Tryz.prog 26=some (.slice none 0 0)∧lesz Tryz.prog 26=some 1:=by and_intros<;>kernel_rfl
@[simp] theorem ft27:sz Tryz.prog 27=some 1∧aggB Tryz.prog 27=some false∧zr Tryz.prog 27=some (.int .i64 0)∧lesz Tryz.prog 27=some 1:=by and_intros<;>kernel_rfl
@[simp] theorem ft28:sz Tryz.prog 28=some 1∧zr Tryz.prog 28=some (.tuple #[.slice none 0 0,.int .i64 0])∧lesz Tryz.prog 28=some 1:=by and_intros<;>kernel_rfl
@[simp] theorem ft33:plcB Tryz.prog 33=true∧fldi Tryz.prog 33 0=some (0,1,false)∧fldi Tryz.prog 33 1=some (1,1,false)∧fldi Tryz.prog 33 2=some (2,1,false)∧fldi Tryz.prog 33 3=some (3,1,false)∧sz Tryz.prog 33=some 4∧aggB Tryz.prog 33=some true∧zr Tryz.prog 33=some (.agg #[.int .i64 0,.string ⟨#[]⟩,.int .i64 0,.bool false])∧lesz Tryz.prog 33=some 4:=by and_intros<;>kernel_rfl
@[simp] theorem ft34:plcB Tryz.prog 34=true∧fldi Tryz.prog 34 0=some (0,1,false)∧fldi Tryz.prog 34 1=some (1,1,false)∧fldi Tryz.prog 34 2=some (2,1,false)∧fldi Tryz.prog 34 3=some (3,1,false)∧sz Tryz.prog 34=some 4∧aggB Tryz.prog 34=some true∧zr Tryz.prog 34=some (.agg #[.int .i64 0,.string ⟨#[]⟩,.int .i64 0,.bool false])∧lesz Tryz.prog 34=some 4:=by and_intros<;>kernel_rfl
@[simp] theorem ft35:sz Tryz.prog 35=some 1∧zr Tryz.prog 35=some (.tuple #[.agg #[.int .i64 0,.string ⟨#[]⟩,.int .i64 0,.bool false],.bool false])∧lesz Tryz.prog 35=some 1:=by and_intros<;>kernel_rfl
@[simp] theorem ft38:plcB Tryz.prog 38=true∧fldi Tryz.prog 38 0=some (0,1,false)∧fldi Tryz.prog 38 1=some (1,1,false)∧fldi Tryz.prog 38 2=some (2,1,false)∧sz Tryz.prog 38=some 3∧aggB Tryz.prog 38=some true∧zr Tryz.prog 38=some (.agg #[.bool false,.int .i64 0,.int .i64 0])∧lesz Tryz.prog 38=some 3:=by and_intros<;>kernel_rfl
@[simp] theorem ft39:plcB Tryz.prog 39=true∧fldi Tryz.prog 39 0=some (0,1,false)∧fldi Tryz.prog 39 1=some (1,1,false)∧fldi Tryz.prog 39 2=some (2,1,false)∧sz Tryz.prog 39=some 3∧aggB Tryz.prog 39=some true∧zr Tryz.prog 39=some (.agg #[.bool false,.int .i64 0,.int .i64 0])∧lesz Tryz.prog 39=some 3:=by and_intros<;>kernel_rfl
@[simp] theorem ft40:plcB Tryz.prog 40=true∧fldi Tryz.prog 40 0=some (0,1,false)∧fldi Tryz.prog 40 1=some (1,1,false)∧fldi Tryz.prog 40 2=some (2,1,false)∧fldi Tryz.prog 40 3=some (3,1,false)∧sz Tryz.prog 40=some 4∧aggB Tryz.prog 40=some true∧zr Tryz.prog 40=some (.agg #[.string ⟨#[]⟩,.bool false,.bool false,.int .i64 0])∧lesz Tryz.prog 40=some 4:=by and_intros<;>kernel_rfl
@[simp] theorem ft41:plcB Tryz.prog 41=true∧fldi Tryz.prog 41 0=some (0,1,false)∧fldi Tryz.prog 41 1=some (1,1,false)∧fldi Tryz.prog 41 2=some (2,1,false)∧fldi Tryz.prog 41 3=some (3,1,false)∧sz Tryz.prog 41=some 4∧aggB Tryz.prog 41=some true∧zr Tryz.prog 41=some (.agg #[.string ⟨#[]⟩,.bool false,.bool false,.int .i64 0])∧lesz Tryz.prog 41=some 4:=by and_intros<;>kernel_rfl
@[simp] theorem ft42:plcB Tryz.prog 42=true∧fldi Tryz.prog 42 0=some (0,3,true)∧fldi Tryz.prog 42 1=some (3,4,true)∧fldi Tryz.prog 42 2=some (7,2,true)∧fldi Tryz.prog 42 3=some (9,1,false)∧sz Tryz.prog 42=some 10∧aggB Tryz.prog 42=some true∧zr Tryz.prog 42=some (.agg #[.bool false,.int .i64 0,.int .i64 0,.string ⟨#[]⟩,.bool false,.bool false,.int .i64 0,.int .i64 0,.slice none 0 0,.bool false])∧lesz Tryz.prog 42=some 10:=by and_intros<;>kernel_rfl
@[simp] theorem ft43:plcB Tryz.prog 43=true∧fldi Tryz.prog 43 0=some (0,3,true)∧fldi Tryz.prog 43 1=some (3,4,true)∧fldi Tryz.prog 43 2=some (7,2,true)∧fldi Tryz.prog 43 3=some (9,1,false)∧sz Tryz.prog 43=some 10∧aggB Tryz.prog 43=some true∧zr Tryz.prog 43=some (.agg #[.bool false,.int .i64 0,.int .i64 0,.string ⟨#[]⟩,.bool false,.bool false,.int .i64 0,.int .i64 0,.slice none 0 0,.bool false])∧lesz Tryz.prog 43=some 10:=by and_intros<;>kernel_rfl
@[simp] theorem ft47:sz Tryz.prog 47=some 1∧aggB Tryz.prog 47=some false∧zr Tryz.prog 47=some (.pointer none)∧lesz Tryz.prog 47=some 1:=by and_intros<;>kernel_rfl
@[simp] theorem ft48:sz Tryz.prog 48=some 1∧aggB Tryz.prog 48=some false∧zr Tryz.prog 48=some (.pointer none)∧lesz Tryz.prog 48=some 1:=by and_intros<;>kernel_rfl
@[simp] theorem ft49:plcB Tryz.prog 49=true∧fldi Tryz.prog 49 0=some (0,10,true)∧fldi Tryz.prog 49 1=some (10,1,false)∧fldi Tryz.prog 49 2=some (11,1,false)∧fldi Tryz.prog 49 3=some (12,1,false)∧fldi Tryz.prog 49 4=some (13,4,true)∧fldi Tryz.prog 49 5=some (17,1,false)∧fldi Tryz.prog 49 6=some (18,1,false)∧fldi Tryz.prog 49 7=some (19,1,false)∧fldi Tryz.prog 49 8=some (20,1,false)∧sz Tryz.prog 49=some 21∧aggB Tryz.prog 49=some true∧zr Tryz.prog 49=some (.agg #[.bool false,.int .i64 0,.int .i64 0,.string ⟨#[]⟩,.bool false,.bool false,.int .i64 0,.int .i64 0,.slice none 0 0,.bool false,.int .i64 0,.pointer none,.pointer none,.int .i64 0,.string ⟨#[]⟩,.int .i64 0,.bool false,.bool false,.int .i64 0,.int .i64 0,.bool false])∧lesz Tryz.prog 49=some 21:=by and_intros<;>kernel_rfl
@[simp] theorem ft50:plcB Tryz.prog 50=true∧fldi Tryz.prog 50 0=some (0,10,true)∧fldi Tryz.prog 50 1=some (10,1,false)∧fldi Tryz.prog 50 2=some (11,1,false)∧fldi Tryz.prog 50 3=some (12,1,false)∧fldi Tryz.prog 50 4=some (13,4,true)∧fldi Tryz.prog 50 5=some (17,1,false)∧fldi Tryz.prog 50 6=some (18,1,false)∧fldi Tryz.prog 50 7=some (19,1,false)∧fldi Tryz.prog 50 8=some (20,1,false)∧sz Tryz.prog 50=some 21∧aggB Tryz.prog 50=some true∧zr Tryz.prog 50=some (.agg #[.bool false,.int .i64 0,.int .i64 0,.string ⟨#[]⟩,.bool false,.bool false,.int .i64 0,.int .i64 0,.slice none 0 0,.bool false,.int .i64 0,.pointer none,.pointer none,.int .i64 0,.string ⟨#[]⟩,.int .i64 0,.bool false,.bool false,.int .i64 0,.int .i64 0,.bool false])∧lesz Tryz.prog 50=some 21:=by and_intros<;>kernel_rfl
@[simp] theorem ft54:plcB Tryz.prog 54=true∧fldi Tryz.prog 54 0=some (0,1,false)∧fldi Tryz.prog 54 1=some (1,1,false)∧fldi Tryz.prog 54 2=some (2,1,false)∧fldi Tryz.prog 54 3=some (3,1,false)∧fldi Tryz.prog 54 4=some (4,1,false)∧fldi Tryz.prog 54 5=some (5,1,false)∧sz Tryz.prog 54=some 6∧aggB Tryz.prog 54=some true∧zr Tryz.prog 54=some (.agg #[.int .i64 0,.int .i64 0,.int .i64 0,.slice none 0 0,.string ⟨#[]⟩,.string ⟨#[]⟩])∧lesz Tryz.prog 54=some 6:=by and_intros<;>kernel_rfl
@[simp] theorem ft55:plcB Tryz.prog 55=true∧fldi Tryz.prog 55 0=some (0,1,false)∧fldi Tryz.prog 55 1=some (1,1,false)∧fldi Tryz.prog 55 2=some (2,1,false)∧fldi Tryz.prog 55 3=some (3,1,false)∧fldi Tryz.prog 55 4=some (4,1,false)∧fldi Tryz.prog 55 5=some (5,1,false)∧sz Tryz.prog 55=some 6∧aggB Tryz.prog 55=some true∧zr Tryz.prog 55=some (.agg #[.int .i64 0,.int .i64 0,.int .i64 0,.slice none 0 0,.string ⟨#[]⟩,.string ⟨#[]⟩])∧lesz Tryz.prog 55=some 6:=by and_intros<;>kernel_rfl
@[simp] theorem ft56:sz Tryz.prog 56=some 1∧zr Tryz.prog 56=some (.tuple #[.pointer none,.int .i64 0])∧lesz Tryz.prog 56=some 1:=by and_intros<;>kernel_rfl
@[simp] theorem ft58:plcB Tryz.prog 58=true∧fldi Tryz.prog 58 0=some (0,1,false)∧fldi Tryz.prog 58 1=some (1,1,false)∧sz Tryz.prog 58=some 2∧aggB Tryz.prog 58=some true∧zr Tryz.prog 58=some (.agg #[.string ⟨#[]⟩,.string ⟨#[]⟩])∧lesz Tryz.prog 58=some 2:=by and_intros<;>kernel_rfl
@[simp] theorem ft59:plcB Tryz.prog 59=true∧fldi Tryz.prog 59 0=some (0,1,false)∧fldi Tryz.prog 59 1=some (1,1,false)∧sz Tryz.prog 59=some 2∧aggB Tryz.prog 59=some true∧zr Tryz.prog 59=some (.agg #[.string ⟨#[]⟩,.string ⟨#[]⟩])∧lesz Tryz.prog 59=some 2:=by and_intros<;>kernel_rfl
@[simp] theorem ft67:sz Tryz.prog 67=some 1∧aggB Tryz.prog 67=some false∧zr Tryz.prog 67=some (.pointer none)∧lesz Tryz.prog 67=some 1:=by and_intros<;>kernel_rfl
@[simp] theorem ft68:plcB Tryz.prog 68=true∧fldi Tryz.prog 68 0=some (0,1,false)∧fldi Tryz.prog 68 1=some (1,1,false)∧fldi Tryz.prog 68 2=some (2,1,false)∧fldi Tryz.prog 68 3=some (3,1,false)∧sz Tryz.prog 68=some 4∧aggB Tryz.prog 68=some true∧zr Tryz.prog 68=some (.agg #[.pointer none,.int .i64 0,.int .i64 0,.int .i64 0])∧lesz Tryz.prog 68=some 4:=by and_intros<;>kernel_rfl
@[simp] theorem ft69:plcB Tryz.prog 69=true∧fldi Tryz.prog 69 0=some (0,1,false)∧fldi Tryz.prog 69 1=some (1,1,false)∧fldi Tryz.prog 69 2=some (2,1,false)∧fldi Tryz.prog 69 3=some (3,1,false)∧sz Tryz.prog 69=some 4∧aggB Tryz.prog 69=some true∧zr Tryz.prog 69=some (.agg #[.pointer none,.int .i64 0,.int .i64 0,.int .i64 0])∧lesz Tryz.prog 69=some 4:=by and_intros<;>kernel_rfl
@[simp] theorem ft71:sz Tryz.prog 71=some 1∧zr Tryz.prog 71=some (.tuple #[.pointer none,.int .i64 0])∧lesz Tryz.prog 71=some 1:=by and_intros<;>kernel_rfl
@[simp] theorem ft74:sz Tryz.prog 74=some 1∧zr Tryz.prog 74=some (.tuple #[.pointer none,.int .i64 0])∧lesz Tryz.prog 74=some 1:=by and_intros<;>kernel_rfl
@[simp] theorem ft80:sz Tryz.prog 80=some 1∧zr Tryz.prog 80=some (.tuple #[.string ⟨#[]⟩,.int .i64 0])∧lesz Tryz.prog 80=some 1:=by and_intros<;>kernel_rfl
@[simp] theorem ft84:sz Tryz.prog 84=some 1∧aggB Tryz.prog 84=some false∧zr Tryz.prog 84=some (.slice none 0 0)∧lesz Tryz.prog 84=some 1:=by and_intros<;>kernel_rfl
@[simp] theorem ft85:plcB Tryz.prog 85=true∧fldi Tryz.prog 85 0=some (0,1,false)∧fldi Tryz.prog 85 1=some (1,1,false)∧fldi Tryz.prog 85 2=some (2,1,false)∧fldi Tryz.prog 85 3=some (3,1,false)∧fldi Tryz.prog 85 4=some (4,1,false)∧sz Tryz.prog 85=some 5∧aggB Tryz.prog 85=some true∧zr Tryz.prog 85=some (.agg #[.slice none 0 0,.int .i64 0,.int .i64 0,.int .i64 0,.int .i64 0])∧lesz Tryz.prog 85=some 5:=by and_intros<;>kernel_rfl
@[simp] theorem ft86:plcB Tryz.prog 86=true∧fldi Tryz.prog 86 0=some (0,1,false)∧fldi Tryz.prog 86 1=some (1,1,false)∧fldi Tryz.prog 86 2=some (2,1,false)∧fldi Tryz.prog 86 3=some (3,1,false)∧fldi Tryz.prog 86 4=some (4,1,false)∧sz Tryz.prog 86=some 5∧aggB Tryz.prog 86=some true∧zr Tryz.prog 86=some (.agg #[.slice none 0 0,.int .i64 0,.int .i64 0,.int .i64 0,.int .i64 0])∧lesz Tryz.prog 86=some 5:=by and_intros<;>kernel_rfl
@[simp] theorem ft87:sz Tryz.prog 87=some 1∧zr Tryz.prog 87=some (.tuple #[.pointer none,.int .i64 0])∧lesz Tryz.prog 87=some 1:=by and_intros<;>kernel_rfl
@[simp] theorem ft92:sz Tryz.prog 92=some 1∧aggB Tryz.prog 92=some false∧zr Tryz.prog 92=some (.pointer none)∧lesz Tryz.prog 92=some 1:=by and_intros<;>kernel_rfl
@[simp] theorem ft93:sz Tryz.prog 93=some 1∧zr Tryz.prog 93=some (.tuple #[.pointer none,.int .i64 0])∧lesz Tryz.prog 93=some 1:=by and_intros<;>kernel_rfl
@[simp] theorem ft95:sz Tryz.prog 95=some 1∧aggB Tryz.prog 95=some false∧zr Tryz.prog 95=some (.pointer none)∧lesz Tryz.prog 95=some 1:=by and_intros<;>kernel_rfl
@[simp] theorem ft96:sz Tryz.prog 96=some 1∧zr Tryz.prog 96=some (.tuple #[.pointer none,.int .i64 0])∧lesz Tryz.prog 96=some 1:=by and_intros<;>kernel_rfl
@[simp] theorem ft98:plcB Tryz.prog 98=true∧fldi Tryz.prog 98 0=some (0,1,false)∧fldi Tryz.prog 98 1=some (1,1,false)∧fldi Tryz.prog 98 2=some (2,1,false)∧fldi Tryz.prog 98 3=some (3,1,false)∧fldi Tryz.prog 98 4=some (4,1,false)∧fldi Tryz.prog 98 5=some (5,1,false)∧fldi Tryz.prog 98 6=some (6,1,false)∧sz Tryz.prog 98=some 7∧aggB Tryz.prog 98=some true∧zr Tryz.prog 98=some (.agg #[.pointer none,.pointer none,.int .i64 0,.string ⟨#[]⟩,.int .i64 0,.int .i64 0,.bool false])∧lesz Tryz.prog 98=some 7:=by and_intros<;>kernel_rfl
@[simp] theorem ft99:plcB Tryz.prog 99=true∧fldi Tryz.prog 99 0=some (0,1,false)∧fldi Tryz.prog 99 1=some (1,1,false)∧fldi Tryz.prog 99 2=some (2,1,false)∧fldi Tryz.prog 99 3=some (3,1,false)∧fldi Tryz.prog 99 4=some (4,1,false)∧fldi Tryz.prog 99 5=some (5,1,false)∧fldi Tryz.prog 99 6=some (6,1,false)∧sz Tryz.prog 99=some 7∧aggB Tryz.prog 99=some true∧zr Tryz.prog 99=some (.agg #[.pointer none,.pointer none,.int .i64 0,.string ⟨#[]⟩,.int .i64 0,.int .i64 0,.bool false])∧lesz Tryz.prog 99=some 7:=by and_intros<;>kernel_rfl
@[simp] theorem ft106:sz Tryz.prog 106=some 1∧aggB Tryz.prog 106=some false∧zr Tryz.prog 106=some (.slice none 0 0)∧lesz Tryz.prog 106=some 1:=by and_intros<;>kernel_rfl
@[simp] theorem ft107:plcB Tryz.prog 107=true∧fldi Tryz.prog 107 0=some (0,1,false)∧fldi Tryz.prog 107 1=some (1,1,false)∧fldi Tryz.prog 107 2=some (2,1,false)∧fldi Tryz.prog 107 3=some (3,1,false)∧fldi Tryz.prog 107 4=some (4,1,false)∧fldi Tryz.prog 107 5=some (5,1,false)∧fldi Tryz.prog 107 6=some (6,1,false)∧fldi Tryz.prog 107 7=some (7,1,false)∧fldi Tryz.prog 107 8=some (8,1,false)∧fldi Tryz.prog 107 9=some (9,1,false)∧sz Tryz.prog 107=some 10∧aggB Tryz.prog 107=some true∧zr Tryz.prog 107=some (.agg #[.int .i64 0,.slice none 0 0,.int .i64 0,.bool false,.string ⟨#[]⟩,.int .i64 0,.bool false,.int .i64 0,.int .i64 0,.int .i64 0])∧lesz Tryz.prog 107=some 10:=by and_intros<;>kernel_rfl
@[simp] theorem ft108:plcB Tryz.prog 108=true∧fldi Tryz.prog 108 0=some (0,1,false)∧fldi Tryz.prog 108 1=some (1,1,false)∧fldi Tryz.prog 108 2=some (2,1,false)∧fldi Tryz.prog 108 3=some (3,1,false)∧fldi Tryz.prog 108 4=some (4,1,false)∧fldi Tryz.prog 108 5=some (5,1,false)∧fldi Tryz.prog 108 6=some (6,1,false)∧fldi Tryz.prog 108 7=some (7,1,false)∧fldi Tryz.prog 108 8=some (8,1,false)∧fldi Tryz.prog 108 9=some (9,1,false)∧sz Tryz.prog 108=some 10∧aggB Tryz.prog 108=some true∧zr Tryz.prog 108=some (.agg #[.int .i64 0,.slice none 0 0,.int .i64 0,.bool false,.string ⟨#[]⟩,.int .i64 0,.bool false,.int .i64 0,.int .i64 0,.int .i64 0])∧lesz Tryz.prog 108=some 10:=by and_intros<;>kernel_rfl
@[simp] theorem ft109:plcB Tryz.prog 109=true∧fldi Tryz.prog 109 0=some (0,1,false)∧fldi Tryz.prog 109 1=some (1,1,false)∧fldi Tryz.prog 109 2=some (2,1,false)∧fldi Tryz.prog 109 3=some (3,1,false)∧fldi Tryz.prog 109 4=some (4,1,false)∧fldi Tryz.prog 109 5=some (5,1,false)∧fldi Tryz.prog 109 6=some (6,1,false)∧fldi Tryz.prog 109 7=some (7,1,false)∧fldi Tryz.prog 109 8=some (8,1,false)∧fldi Tryz.prog 109 9=some (9,1,false)∧fldi Tryz.prog 109 10=some (10,1,false)∧fldi Tryz.prog 109 11=some (11,1,false)∧fldi Tryz.prog 109 12=some (12,1,false)∧sz Tryz.prog 109=some 13∧aggB Tryz.prog 109=some true∧zr Tryz.prog 109=some (.agg #[.int .i64 0,.slice none 0 0,.int .i64 0,.int .u8 0,.bool false,.string ⟨#[]⟩,.int .i64 0,.bool false,.bool false,.int .i64 0,.int .i64 0,.int .i64 0,.int .i64 0])∧lesz Tryz.prog 109=some 13:=by and_intros<;>kernel_rfl
@[simp] theorem ft110:plcB Tryz.prog 110=true∧fldi Tryz.prog 110 0=some (0,1,false)∧fldi Tryz.prog 110 1=some (1,1,false)∧fldi Tryz.prog 110 2=some (2,1,false)∧fldi Tryz.prog 110 3=some (3,1,false)∧fldi Tryz.prog 110 4=some (4,1,false)∧fldi Tryz.prog 110 5=some (5,1,false)∧fldi Tryz.prog 110 6=some (6,1,false)∧fldi Tryz.prog 110 7=some (7,1,false)∧fldi Tryz.prog 110 8=some (8,1,false)∧fldi Tryz.prog 110 9=some (9,1,false)∧fldi Tryz.prog 110 10=some (10,1,false)∧fldi Tryz.prog 110 11=some (11,1,false)∧fldi Tryz.prog 110 12=some (12,1,false)∧sz Tryz.prog 110=some 13∧aggB Tryz.prog 110=some true∧zr Tryz.prog 110=some (.agg #[.int .i64 0,.slice none 0 0,.int .i64 0,.int .u8 0,.bool false,.string ⟨#[]⟩,.int .i64 0,.bool false,.bool false,.int .i64 0,.int .i64 0,.int .i64 0,.int .i64 0])∧lesz Tryz.prog 110=some 13:=by and_intros<;>kernel_rfl
@[simp] theorem ft111:sz Tryz.prog 111=some 1∧aggB Tryz.prog 111=some false∧zr Tryz.prog 111=some (.slice none 0 0)∧lesz Tryz.prog 111=some 1:=by and_intros<;>kernel_rfl
@[simp] theorem ft112:plcB Tryz.prog 112=true∧fldi Tryz.prog 112 0=some (0,1,false)∧fldi Tryz.prog 112 1=some (1,1,false)∧fldi Tryz.prog 112 2=some (2,1,false)∧sz Tryz.prog 112=some 3∧aggB Tryz.prog 112=some true∧zr Tryz.prog 112=some (.agg #[.string ⟨#[]⟩,.string ⟨#[]⟩,.slice none 0 0])∧lesz Tryz.prog 112=some 3:=by and_intros<;>kernel_rfl
@[simp] theorem ft113:plcB Tryz.prog 113=true∧fldi Tryz.prog 113 0=some (0,1,false)∧fldi Tryz.prog 113 1=some (1,1,false)∧fldi Tryz.prog 113 2=some (2,1,false)∧sz Tryz.prog 113=some 3∧aggB Tryz.prog 113=some true∧zr Tryz.prog 113=some (.agg #[.string ⟨#[]⟩,.string ⟨#[]⟩,.slice none 0 0])∧lesz Tryz.prog 113=some 3:=by and_intros<;>kernel_rfl
@[simp] theorem ft114:plcB Tryz.prog 114=true∧fldi Tryz.prog 114 0=some (0,3,true)∧fldi Tryz.prog 114 1=some (3,1,false)∧fldi Tryz.prog 114 2=some (4,1,false)∧fldi Tryz.prog 114 3=some (5,1,false)∧sz Tryz.prog 114=some 6∧aggB Tryz.prog 114=some true∧zr Tryz.prog 114=some (.agg #[.string ⟨#[]⟩,.string ⟨#[]⟩,.slice none 0 0,.bool false,.bool false,.bool false])∧lesz Tryz.prog 114=some 6:=by and_intros<;>kernel_rfl
@[simp] theorem ft115:plcB Tryz.prog 115=true∧fldi Tryz.prog 115 0=some (0,3,true)∧fldi Tryz.prog 115 1=some (3,1,false)∧fldi Tryz.prog 115 2=some (4,1,false)∧fldi Tryz.prog 115 3=some (5,1,false)∧sz Tryz.prog 115=some 6∧aggB Tryz.prog 115=some true∧zr Tryz.prog 115=some (.agg #[.string ⟨#[]⟩,.string ⟨#[]⟩,.slice none 0 0,.bool false,.bool false,.bool false])∧lesz Tryz.prog 115=some 6:=by and_intros<;>kernel_rfl
@[simp] theorem ft124:sz Tryz.prog 124=some 1∧zr Tryz.prog 124=some (.tuple #[.int .i64 0,.string ⟨#[]⟩])∧lesz Tryz.prog 124=some 1:=by and_intros<;>kernel_rfl
@[simp] theorem ft129:sz Tryz.prog 129=some 1∧zr Tryz.prog 129=some (.tuple #[.agg #[.string ⟨#[]⟩,.string ⟨#[]⟩,.slice none 0 0],.bool false])∧lesz Tryz.prog 129=some 1:=by and_intros<;>kernel_rfl
@[simp] theorem ft131:sz Tryz.prog 131=some 1∧zr Tryz.prog 131=some (.tuple #[.string ⟨#[]⟩,.bool false])∧lesz Tryz.prog 131=some 1:=by and_intros<;>kernel_rfl
@[simp] theorem ft139:plcB Tryz.prog 139=true∧fldi Tryz.prog 139 0=some (0,1,false)∧fldi Tryz.prog 139 1=some (1,1,false)∧fldi Tryz.prog 139 2=some (2,1,false)∧sz Tryz.prog 139=some 3∧aggB Tryz.prog 139=some true∧zr Tryz.prog 139=some (.agg #[.int .i64 0,.int .i64 0,.int .i64 0])∧lesz Tryz.prog 139=some 3:=by and_intros<;>kernel_rfl
@[simp] theorem ft140:plcB Tryz.prog 140=true∧fldi Tryz.prog 140 0=some (0,1,false)∧fldi Tryz.prog 140 1=some (1,1,false)∧fldi Tryz.prog 140 2=some (2,1,false)∧sz Tryz.prog 140=some 3∧aggB Tryz.prog 140=some true∧zr Tryz.prog 140=some (.agg #[.int .i64 0,.int .i64 0,.int .i64 0])∧lesz Tryz.prog 140=some 3:=by and_intros<;>kernel_rfl
@[simp] theorem ft141:sz Tryz.prog 141=some 1∧zr Tryz.prog 141=some (.tuple #[.agg #[.int .i64 0,.int .i64 0,.int .i64 0],.bool false])∧lesz Tryz.prog 141=some 1:=by and_intros<;>kernel_rfl
@[simp] theorem ft146:sz Tryz.prog 146=some 1∧aggB Tryz.prog 146=some false∧zr Tryz.prog 146=some (.slice none 0 0)∧lesz Tryz.prog 146=some 1:=by and_intros<;>kernel_rfl
@[simp] theorem ft147:sz Tryz.prog 147=some 1∧zr Tryz.prog 147=some (.tuple #[.agg #[.string ⟨#[]⟩,.string ⟨#[]⟩,.slice none 0 0],.int .i64 0])∧lesz Tryz.prog 147=some 1:=by and_intros<;>kernel_rfl
@[simp] theorem ft155:sz Tryz.prog 155=some 1∧zr Tryz.prog 155=some (.tuple #[.agg #[.int .i64 0,.int .i64 0,.int .i64 0],.int .i64 0])∧lesz Tryz.prog 155=some 1:=by and_intros<;>kernel_rfl
@[simp] theorem ft158:plcB Tryz.prog 158=true∧fldi Tryz.prog 158 0=some (0,1,false)∧fldi Tryz.prog 158 1=some (1,1,false)∧sz Tryz.prog 158=some 2∧aggB Tryz.prog 158=some true∧zr Tryz.prog 158=some (.agg #[.int .i64 0,.int .i64 0])∧lesz Tryz.prog 158=some 2:=by and_intros<;>kernel_rfl
@[simp] theorem ft159:plcB Tryz.prog 159=true∧fldi Tryz.prog 159 0=some (0,1,false)∧fldi Tryz.prog 159 1=some (1,1,false)∧sz Tryz.prog 159=some 2∧aggB Tryz.prog 159=some true∧zr Tryz.prog 159=some (.agg #[.int .i64 0,.int .i64 0])∧lesz Tryz.prog 159=some 2:=by and_intros<;>kernel_rfl
@[simp] theorem ft160:sz Tryz.prog 160=some 1∧zr Tryz.prog 160=some (.tuple #[.agg #[.int .i64 0,.int .i64 0],.bool false])∧lesz Tryz.prog 160=some 1:=by and_intros<;>kernel_rfl
@[simp] theorem ft162:sz Tryz.prog 162=some 1∧aggB Tryz.prog 162=some false∧zr Tryz.prog 162=some (.pointer none)∧lesz Tryz.prog 162=some 1:=by and_intros<;>kernel_rfl
@[simp] theorem ft169:sz Tryz.prog 169=some 1∧zr Tryz.prog 169=some (.tuple #[.int .i64 0,.bool false])∧lesz Tryz.prog 169=some 1:=by and_intros<;>kernel_rfl
@[simp] theorem ft176:sz Tryz.prog 176=some 256∧aggB Tryz.prog 176=some true∧zr Tryz.prog 176=some (.agg #[.int .u8 0,.int .u8 0,.int .u8 0,.int .u8 0,.int .u8 0,.int .u8 0,.int .u8 0,.int .u8 0,.int .u8 0,.int .u8 0,.int .u8 0,.int .u8 0,.int .u8 0,.int .u8 0,.int .u8 0,.int .u8 0,.int .u8 0,.int .u8 0,.int .u8 0,.int .u8 0,.int .u8 0,.int .u8 0,.int .u8 0,.int .u8 0,.int .u8 0,.int .u8 0,.int .u8 0,.int .u8 0,.int .u8 0,.int .u8 0,.int .u8 0,.int .u8 0,.int .u8 0,.int .u8 0,.int .u8 0,.int .u8 0,.int .u8 0,.int .u8 0,.int .u8 0,.int .u8 0,.int .u8 0,.int .u8 0,.int .u8 0,.int .u8 0,.int .u8 0,.int .u8 0,.int .u8 0,.int .u8 0,.int .u8 0,.int .u8 0,.int .u8 0,.int .u8 0,.int .u8 0,.int .u8 0,.int .u8 0,.int .u8 0,.int .u8 0,.int .u8 0,.int .u8 0,.int .u8 0,.int .u8 0,.int .u8 0,.int .u8 0,.int .u8 0,.int .u8 0,.int .u8 0,.int .u8 0,.int .u8 0,.int .u8 0,.int .u8 0,.int .u8 0,.int .u8 0,.int .u8 0,.int .u8 0,.int .u8 0,.int .u8 0,.int .u8 0,.int .u8 0,.int .u8 0,.int .u8 0,.int .u8 0,.int .u8 0,.int .u8 0,.int .u8 0,.int .u8 0,.int .u8 0,.int .u8 0,.int .u8 0,.int .u8 0,.int .u8 0,.int .u8 0,.int .u8 0,.int .u8 0,.int .u8 0,.int .u8 0,.int .u8 0,.int .u8 0,.int .u8 0,.int .u8 0,.int .u8 0,.int .u8 0,.int .u8 0,.int .u8 0,.int .u8 0,.int .u8 0,.int .u8 0,.int .u8 0,.int .u8 0,.int .u8 0,.int .u8 0,.int .u8 0,.int .u8 0,.int .u8 0,.int .u8 0,.int .u8 0,.int .u8 0,.int .u8 0,.int .u8 0,.int .u8 0,.int .u8 0,.int .u8 0,.int .u8 0,.int .u8 0,.int .u8 0,.int .u8 0,.int .u8 0,.int .u8 0,.int .u8 0,.int .u8 0,.int .u8 0,.int .u8 0,.int .u8 0,.int .u8 0,.int .u8 0,.int .u8 0,.int .u8 0,.int .u8 0,.int .u8 0,.int .u8 0,.int .u8 0,.int .u8 0,.int .u8 0,.int .u8 0,.int .u8 0,.int .u8 0,.int .u8 0,.int .u8 0,.int .u8 0,.int .u8 0,.int .u8 0,.int .u8 0,.int .u8 0,.int .u8 0,.int .u8 0,.int .u8 0,.int .u8 0,.int .u8 0,.int .u8 0,.int .u8 0,.int .u8 0,.int .u8 0,.int .u8 0,.int .u8 0,.int .u8 0,.int .u8 0,.int .u8 0,.int .u8 0,.int .u8 0,.int .u8 0,.int .u8 0,.int .u8 0,.int .u8 0,.int .u8 0,.int .u8 0,.int .u8 0,.int .u8 0,.int .u8 0,.int .u8 0,.int .u8 0,.int .u8 0,.int .u8 0,.int .u8 0,.int .u8 0,.int .u8 0,.int .u8 0,.int .u8 0,.int .u8 0,.int .u8 0,.int .u8 0,.int .u8 0,.int .u8 0,.int .u8 0,.int .u8 0,.int .u8 0,.int .u8 0,.int .u8 0,.int .u8 0,.int .u8 0,.int .u8 0,.int .u8 0,.int .u8 0,.int .u8 0,.int .u8 0,.int .u8 0,.int .u8 0,.int .u8 0,.int .u8 0,.int .u8 0,.int .u8 0,.int .u8 0,.int .u8 0,.int .u8 0,.int .u8 0,.int .u8 0,.int .u8 0,.int .u8 0,.int .u8 0,.int .u8 0,.int .u8 0,.int .u8 0,.int .u8 0,.int .u8 0,.int .u8 0,.int .u8 0,.int .u8 0,.int .u8 0,.int .u8 0,.int .u8 0,.int .u8 0,.int .u8 0,.int .u8 0,.int .u8 0,.int .u8 0,.int .u8 0,.int .u8 0,.int .u8 0,.int .u8 0,.int .u8 0,.int .u8 0,.int .u8 0,.int .u8 0,.int .u8 0,.int .u8 0,.int .u8 0,.int .u8 0,.int .u8 0,.int .u8 0,.int .u8 0,.int .u8 0,.int .u8 0,.int .u8 0,.int .u8 0,.int .u8 0,.int .u8 0,.int .u8 0,.int .u8 0])∧lesz Tryz.prog 176=some 256:=by and_intros<;>kernel_rfl
@[simp] theorem ft180:plcB Tryz.prog 180=true∧fldi Tryz.prog 180 0=some (0,1,false)∧sz Tryz.prog 180=some 1∧aggB Tryz.prog 180=some true∧zr Tryz.prog 180=some (.agg #[.pointer none])∧lesz Tryz.prog 180=some 1:=by and_intros<;>kernel_rfl
@[simp] theorem ft181:plcB Tryz.prog 181=true∧fldi Tryz.prog 181 0=some (0,1,false)∧sz Tryz.prog 181=some 1∧aggB Tryz.prog 181=some true∧zr Tryz.prog 181=some (.agg #[.pointer none])∧lesz Tryz.prog 181=some 1:=by and_intros<;>kernel_rfl
@[simp] theorem ft183:sz Tryz.prog 183=some 1∧zr Tryz.prog 183=some (.tuple #[.int .i64 0,.int .i64 0])∧lesz Tryz.prog 183=some 1:=by and_intros<;>kernel_rfl
@[simp] theorem ft188:plcB Tryz.prog 188=true∧fldi Tryz.prog 188 0=some (0,1,false)∧fldi Tryz.prog 188 1=some (1,1,false)∧fldi Tryz.prog 188 2=some (2,1,false)∧fldi Tryz.prog 188 3=some (3,1,false)∧sz Tryz.prog 188=some 4∧aggB Tryz.prog 188=some true∧zr Tryz.prog 188=some (.agg #[.string ⟨#[]⟩,.string ⟨#[]⟩,.string ⟨#[]⟩,.string ⟨#[]⟩])∧lesz Tryz.prog 188=some 4:=by and_intros<;>kernel_rfl
@[simp] theorem ft189:plcB Tryz.prog 189=true∧fldi Tryz.prog 189 0=some (0,1,false)∧fldi Tryz.prog 189 1=some (1,1,false)∧fldi Tryz.prog 189 2=some (2,1,false)∧fldi Tryz.prog 189 3=some (3,1,false)∧sz Tryz.prog 189=some 4∧aggB Tryz.prog 189=some true∧zr Tryz.prog 189=some (.agg #[.string ⟨#[]⟩,.string ⟨#[]⟩,.string ⟨#[]⟩,.string ⟨#[]⟩])∧lesz Tryz.prog 189=some 4:=by and_intros<;>kernel_rfl
@[simp] theorem ft193:plcB Tryz.prog 193=true∧fldi Tryz.prog 193 0=some (0,1,false)∧fldi Tryz.prog 193 1=some (1,1,false)∧sz Tryz.prog 193=some 2∧aggB Tryz.prog 193=some true∧zr Tryz.prog 193=some (.agg #[.string ⟨#[]⟩,.int .i64 0])∧lesz Tryz.prog 193=some 2:=by and_intros<;>kernel_rfl
@[simp] theorem ft194:plcB Tryz.prog 194=true∧fldi Tryz.prog 194 0=some (0,1,false)∧fldi Tryz.prog 194 1=some (1,1,false)∧sz Tryz.prog 194=some 2∧aggB Tryz.prog 194=some true∧zr Tryz.prog 194=some (.agg #[.string ⟨#[]⟩,.int .i64 0])∧lesz Tryz.prog 194=some 2:=by and_intros<;>kernel_rfl
@[simp] theorem ft198:sz Tryz.prog 198=some 1∧aggB Tryz.prog 198=some false∧zr Tryz.prog 198=some (.slice none 0 0)∧lesz Tryz.prog 198=some 1:=by and_intros<;>kernel_rfl
@[simp] theorem ft200:sz Tryz.prog 200=some 1∧zr Tryz.prog 200=some (.tuple #[.agg #[.string ⟨#[]⟩,.string ⟨#[]⟩,.slice none 0 0],.string ⟨#[]⟩])∧lesz Tryz.prog 200=some 1:=by and_intros<;>kernel_rfl
@[simp] theorem ft205:sz Tryz.prog 205=some 1∧aggB Tryz.prog 205=some false∧zr Tryz.prog 205=some (.pointer none)∧lesz Tryz.prog 205=some 1:=by and_intros<;>kernel_rfl
@[simp] theorem ft206:plcB Tryz.prog 206=true∧fldi Tryz.prog 206 0=some (0,1,false)∧fldi Tryz.prog 206 1=some (1,1,false)∧sz Tryz.prog 206=some 2∧aggB Tryz.prog 206=some true∧zr Tryz.prog 206=some (.agg #[.pointer none,.slice none 0 0])∧lesz Tryz.prog 206=some 2:=by and_intros<;>kernel_rfl
@[simp] theorem ft207:plcB Tryz.prog 207=true∧fldi Tryz.prog 207 0=some (0,1,false)∧fldi Tryz.prog 207 1=some (1,1,false)∧sz Tryz.prog 207=some 2∧aggB Tryz.prog 207=some true∧zr Tryz.prog 207=some (.agg #[.pointer none,.slice none 0 0])∧lesz Tryz.prog 207=some 2:=by and_intros<;>kernel_rfl
@[simp] theorem ft209:sz Tryz.prog 209=some 1∧aggB Tryz.prog 209=some false∧zr Tryz.prog 209=some (.nilIface)∧lesz Tryz.prog 209=some 1:=by and_intros<;>kernel_rfl
@[simp] theorem ft210:sz Tryz.prog 210=some 1∧zr Tryz.prog 210=some (.tuple #[.int .i64 0,.nilIface])∧lesz Tryz.prog 210=some 1:=by and_intros<;>kernel_rfl
@[simp] theorem ft212:sz Tryz.prog 212=some 1∧zr Tryz.prog 212=some (.tuple #[.int .u8 0,.bool false])∧lesz Tryz.prog 212=some 1:=by and_intros<;>kernel_rfl
@[simp] theorem ft214:sz Tryz.prog 214=some 1∧zr Tryz.prog 214=some (.tuple #[.string ⟨#[]⟩,.string ⟨#[]⟩])∧lesz Tryz.prog 214=some 1:=by and_intros<;>kernel_rfl
@[simp] theorem ft217:sz Tryz.prog 217=some 1∧aggB Tryz.prog 217=some false∧zr Tryz.prog 217=some (.slice none 0 0)∧lesz Tryz.prog 217=some 1:=by and_intros<;>kernel_rfl
@[simp] theorem ft218:plcB Tryz.prog 218=true∧fldi Tryz.prog 218 0=some (0,1,false)∧fldi Tryz.prog 218 1=some (1,1,false)∧sz Tryz.prog 218=some 2∧aggB Tryz.prog 218=some true∧zr Tryz.prog 218=some (.agg #[.int .i64 0,.int .i64 0])∧lesz Tryz.prog 218=some 2:=by and_intros<;>kernel_rfl
@[simp] theorem ft219:plcB Tryz.prog 219=true∧fldi Tryz.prog 219 0=some (0,1,false)∧fldi Tryz.prog 219 1=some (1,1,false)∧sz Tryz.prog 219=some 2∧aggB Tryz.prog 219=some true∧zr Tryz.prog 219=some (.agg #[.int .i64 0,.int .i64 0])∧lesz Tryz.prog 219=some 2:=by and_intros<;>kernel_rfl
@[simp] theorem ft220:sz Tryz.prog 220=some 1∧aggB Tryz.prog 220=some false∧zr Tryz.prog 220=some (.int .u32 0)∧lesz Tryz.prog 220=some 1:=by and_intros<;>kernel_rfl
@[simp] theorem ft222:sz Tryz.prog 222=some 1∧aggB Tryz.prog 222=some false∧zr Tryz.prog 222=some (.pointer none)∧lesz Tryz.prog 222=some 1:=by and_intros<;>kernel_rfl
@[simp] theorem ft235:sz Tryz.prog 235=some 1∧aggB Tryz.prog 235=some false∧zr Tryz.prog 235=some (.pointer none)∧lesz Tryz.prog 235=some 1:=by and_intros<;>kernel_rfl
@[simp] theorem ft236:sz Tryz.prog 236=some 1∧aggB Tryz.prog 236=some false∧zr Tryz.prog 236=some (.slice none 0 0)∧lesz Tryz.prog 236=some 1:=by and_intros<;>kernel_rfl
@[simp] theorem ft237:sz Tryz.prog 237=some 1∧aggB Tryz.prog 237=some false∧zr Tryz.prog 237=some (.slice none 0 0)∧lesz Tryz.prog 237=some 1:=by and_intros<;>kernel_rfl
@[simp] theorem ft238:plcB Tryz.prog 238=true∧fldi Tryz.prog 238 0=some (0,1,false)∧fldi Tryz.prog 238 1=some (1,1,false)∧fldi Tryz.prog 238 2=some (2,1,false)∧sz Tryz.prog 238=some 3∧aggB Tryz.prog 238=some true∧zr Tryz.prog 238=some (.agg #[.slice none 0 0,.slice none 0 0,.int .i64 0])∧lesz Tryz.prog 238=some 3:=by and_intros<;>kernel_rfl
@[simp] theorem ft239:plcB Tryz.prog 239=true∧fldi Tryz.prog 239 0=some (0,1,false)∧fldi Tryz.prog 239 1=some (1,1,false)∧fldi Tryz.prog 239 2=some (2,1,false)∧sz Tryz.prog 239=some 3∧aggB Tryz.prog 239=some true∧zr Tryz.prog 239=some (.agg #[.slice none 0 0,.slice none 0 0,.int .i64 0])∧lesz Tryz.prog 239=some 3:=by and_intros<;>kernel_rfl
@[simp] theorem ft240:sz Tryz.prog 240=some 1∧aggB Tryz.prog 240=some false∧zr Tryz.prog 240=some (.int .u16 0)∧lesz Tryz.prog 240=some 1:=by and_intros<;>kernel_rfl
@[simp] theorem ft241:plcB Tryz.prog 241=true∧fldi Tryz.prog 241 0=some (0,1,false)∧fldi Tryz.prog 241 1=some (1,1,false)∧fldi Tryz.prog 241 2=some (2,1,false)∧sz Tryz.prog 241=some 3∧aggB Tryz.prog 241=some true∧zr Tryz.prog 241=some (.agg #[.int .u16 0,.int .u16 0,.int .u16 0])∧lesz Tryz.prog 241=some 3:=by and_intros<;>kernel_rfl
@[simp] theorem ft242:plcB Tryz.prog 242=true∧fldi Tryz.prog 242 0=some (0,1,false)∧fldi Tryz.prog 242 1=some (1,1,false)∧fldi Tryz.prog 242 2=some (2,1,false)∧sz Tryz.prog 242=some 3∧aggB Tryz.prog 242=some true∧zr Tryz.prog 242=some (.agg #[.int .u16 0,.int .u16 0,.int .u16 0])∧lesz Tryz.prog 242=some 3:=by and_intros<;>kernel_rfl
@[simp] theorem ft244:plcB Tryz.prog 244=true∧fldi Tryz.prog 244 0=some (0,1,false)∧fldi Tryz.prog 244 1=some (1,1,false)∧fldi Tryz.prog 244 2=some (2,1,false)∧sz Tryz.prog 244=some 3∧aggB Tryz.prog 244=some true∧zr Tryz.prog 244=some (.agg #[.int .u32 0,.int .u32 0,.int .u32 0])∧lesz Tryz.prog 244=some 3:=by and_intros<;>kernel_rfl
@[simp] theorem ft245:plcB Tryz.prog 245=true∧fldi Tryz.prog 245 0=some (0,1,false)∧fldi Tryz.prog 245 1=some (1,1,false)∧fldi Tryz.prog 245 2=some (2,1,false)∧sz Tryz.prog 245=some 3∧aggB Tryz.prog 245=some true∧zr Tryz.prog 245=some (.agg #[.int .u32 0,.int .u32 0,.int .u32 0])∧lesz Tryz.prog 245=some 3:=by and_intros<;>kernel_rfl
@[simp] theorem ft250:sz Tryz.prog 250=some 1∧aggB Tryz.prog 250=some false∧zr Tryz.prog 250=some (.int .u64 0)∧lesz Tryz.prog 250=some 1:=by and_intros<;>kernel_rfl
@[simp] theorem ft251:sz Tryz.prog 251=some 1∧zr Tryz.prog 251=some (.tuple #[.int .u64 0,.int .u64 0])∧lesz Tryz.prog 251=some 1:=by and_intros<;>kernel_rfl
@[simp] theorem ft253:plcB Tryz.prog 253=true∧fldi Tryz.prog 253 0=some (0,1,false)∧fldi Tryz.prog 253 1=some (1,1,false)∧sz Tryz.prog 253=some 2∧aggB Tryz.prog 253=some true∧zr Tryz.prog 253=some (.agg #[.string ⟨#[]⟩,.string ⟨#[]⟩])∧lesz Tryz.prog 253=some 2:=by and_intros<;>kernel_rfl
@[simp] theorem ft254:sz Tryz.prog 254=some 1∧zr Tryz.prog 254=some (.tuple #[.agg #[.string ⟨#[]⟩,.string ⟨#[]⟩],.bool false])∧lesz Tryz.prog 254=some 1:=by and_intros<;>kernel_rfl
@[simp] theorem ft263:sz Tryz.prog 263=some 1∧aggB Tryz.prog 263=some false∧zr Tryz.prog 263=some (.pointer none)∧lesz Tryz.prog 263=some 1:=by and_intros<;>kernel_rfl
@[simp] theorem ft264:sz Tryz.prog 264=some 1∧aggB Tryz.prog 264=some false∧zr Tryz.prog 264=some (.pointer none)∧lesz Tryz.prog 264=some 1:=by and_intros<;>kernel_rfl
@[simp] theorem ft268:sz Tryz.prog 268=some 1∧zr Tryz.prog 268=some (.tuple #[.int .u32 0,.int .u32 0])∧lesz Tryz.prog 268=some 1:=by and_intros<;>kernel_rfl
@[simp] theorem ft270:sz Tryz.prog 270=some 1∧aggB Tryz.prog 270=some false∧zr Tryz.prog 270=some (.int .u64 0)∧lesz Tryz.prog 270=some 1:=by and_intros<;>kernel_rfl
@[simp] theorem ft271:sz Tryz.prog 271=some 1∧zr Tryz.prog 271=some (.tuple #[.int .u64 0,.int .u64 0])∧lesz Tryz.prog 271=some 1:=by and_intros<;>kernel_rfl
@[simp] theorem ft275:sz Tryz.prog 275=some 1∧aggB Tryz.prog 275=some false∧zr Tryz.prog 275=some (.slice none 0 0)∧lesz Tryz.prog 275=some 1:=by and_intros<;>kernel_rfl
@[simp] theorem ft280:sz Tryz.prog 280=some 1∧zr Tryz.prog 280=some (.tuple #[.int .i32 0,.int .i64 0])∧lesz Tryz.prog 280=some 1:=by and_intros<;>kernel_rfl
@[simp] theorem ft284:plcB Tryz.prog 284=true∧fldi Tryz.prog 284 0=some (0,1,false)∧fldi Tryz.prog 284 1=some (1,1,false)∧fldi Tryz.prog 284 2=some (2,1,false)∧fldi Tryz.prog 284 3=some (3,1,false)∧fldi Tryz.prog 284 4=some (4,1,false)∧sz Tryz.prog 284=some 5∧aggB Tryz.prog 284=some true∧zr Tryz.prog 284=some (.agg #[.int .i64 0,.int .i64 0,.int .i64 0,.int .i64 0,.bool false])∧lesz Tryz.prog 284=some 5:=by and_intros<;>kernel_rfl
@[simp] theorem ft285:plcB Tryz.prog 285=true∧fldi Tryz.prog 285 0=some (0,1,false)∧fldi Tryz.prog 285 1=some (1,1,false)∧fldi Tryz.prog 285 2=some (2,1,false)∧fldi Tryz.prog 285 3=some (3,1,false)∧fldi Tryz.prog 285 4=some (4,1,false)∧sz Tryz.prog 285=some 5∧aggB Tryz.prog 285=some true∧zr Tryz.prog 285=some (.agg #[.int .i64 0,.int .i64 0,.int .i64 0,.int .i64 0,.bool false])∧lesz Tryz.prog 285=some 5:=by and_intros<;>kernel_rfl
@[simp] theorem ft286:sz Tryz.prog 286=some 1∧zr Tryz.prog 286=some (.tuple #[.agg #[.int .i64 0,.int .i64 0,.int .i64 0,.int .i64 0,.bool false],.int .i64 0,.bool false])∧lesz Tryz.prog 286=some 1:=by and_intros<;>kernel_rfl
@[simp] theorem ft288:sz Tryz.prog 288=some 1∧zr Tryz.prog 288=some (.tuple #[.agg #[.int .i64 0,.int .i64 0,.int .i64 0,.int .i64 0,.bool false],.bool false])∧lesz Tryz.prog 288=some 1:=by and_intros<;>kernel_rfl
@[simp] theorem ft294:sz Tryz.prog 294=some 1∧aggB Tryz.prog 294=some false∧zr Tryz.prog 294=some (.nilFunc)∧lesz Tryz.prog 294=some 1:=by and_intros<;>kernel_rfl
@[simp] theorem ft301:plcB Tryz.prog 301=true∧fldi Tryz.prog 301 0=some (0,1,false)∧fldi Tryz.prog 301 1=some (1,1,false)∧sz Tryz.prog 301=some 2∧aggB Tryz.prog 301=some true∧zr Tryz.prog 301=some (.agg #[.int .u8 0,.int .u8 0])∧lesz Tryz.prog 301=some 2:=by and_intros<;>kernel_rfl
@[simp] theorem ft302:plcB Tryz.prog 302=true∧fldi Tryz.prog 302 0=some (0,1,false)∧fldi Tryz.prog 302 1=some (1,1,false)∧sz Tryz.prog 302=some 2∧aggB Tryz.prog 302=some true∧zr Tryz.prog 302=some (.agg #[.int .u8 0,.int .u8 0])∧lesz Tryz.prog 302=some 2:=by and_intros<;>kernel_rfl
@[simp] theorem ft303:sz Tryz.prog 303=some 32∧aggB Tryz.prog 303=some true∧zr Tryz.prog 303=some (.agg #[.int .u8 0,.int .u8 0,.int .u8 0,.int .u8 0,.int .u8 0,.int .u8 0,.int .u8 0,.int .u8 0,.int .u8 0,.int .u8 0,.int .u8 0,.int .u8 0,.int .u8 0,.int .u8 0,.int .u8 0,.int .u8 0,.int .u8 0,.int .u8 0,.int .u8 0,.int .u8 0,.int .u8 0,.int .u8 0,.int .u8 0,.int .u8 0,.int .u8 0,.int .u8 0,.int .u8 0,.int .u8 0,.int .u8 0,.int .u8 0,.int .u8 0,.int .u8 0])∧lesz Tryz.prog 303=some 32:=by and_intros<;>kernel_rfl
@[simp] theorem ft305:sz Tryz.prog 305=some 1∧zr Tryz.prog 305=some (.tuple #[.int .u32 0,.agg #[.int .i64 0,.int .i64 0]])∧lesz Tryz.prog 305=some 1:=by and_intros<;>kernel_rfl
@[simp] theorem ft310:plcB Tryz.prog 310=true∧fldi Tryz.prog 310 0=some (0,1,false)∧fldi Tryz.prog 310 1=some (1,1,false)∧fldi Tryz.prog 310 2=some (2,1,false)∧fldi Tryz.prog 310 3=some (3,1,false)∧sz Tryz.prog 310=some 4∧aggB Tryz.prog 310=some true∧zr Tryz.prog 310=some (.agg #[.pointer none,.pointer none,.pointer none,.string ⟨#[]⟩])∧lesz Tryz.prog 310=some 4:=by and_intros<;>kernel_rfl
@[simp] theorem ft311:plcB Tryz.prog 311=true∧fldi Tryz.prog 311 0=some (0,1,false)∧fldi Tryz.prog 311 1=some (1,1,false)∧fldi Tryz.prog 311 2=some (2,1,false)∧fldi Tryz.prog 311 3=some (3,1,false)∧sz Tryz.prog 311=some 4∧aggB Tryz.prog 311=some true∧zr Tryz.prog 311=some (.agg #[.pointer none,.pointer none,.pointer none,.string ⟨#[]⟩])∧lesz Tryz.prog 311=some 4:=by and_intros<;>kernel_rfl
@[simp] theorem ft312:sz Tryz.prog 312=some 0∧aggB Tryz.prog 312=some true∧zr Tryz.prog 312=some (.agg #[]):=by and_intros<;>kernel_rfl
@[simp] theorem ft313:plcB Tryz.prog 313=true∧fldi Tryz.prog 313 0=some (0,0,true)∧sz Tryz.prog 313=some 0∧aggB Tryz.prog 313=some true∧zr Tryz.prog 313=some (.agg #[]):=by and_intros<;>kernel_rfl
@[simp] theorem ft314:plcB Tryz.prog 314=true∧fldi Tryz.prog 314 0=some (0,0,true)∧sz Tryz.prog 314=some 0∧aggB Tryz.prog 314=some true∧zr Tryz.prog 314=some (.agg #[]):=by and_intros<;>kernel_rfl
@[simp] theorem ft315:sz Tryz.prog 315=some 1∧aggB Tryz.prog 315=some false∧zr Tryz.prog 315=some (.int .u8 0)∧lesz Tryz.prog 315=some 1:=by and_intros<;>kernel_rfl
@[simp] theorem ft316:sz Tryz.prog 316=some 1∧aggB Tryz.prog 316=some false∧zr Tryz.prog 316=some (.int .u8 0)∧lesz Tryz.prog 316=some 1:=by and_intros<;>kernel_rfl
@[simp] theorem ft318:sz Tryz.prog 318=some 1∧aggB Tryz.prog 318=some false∧zr Tryz.prog 318=some (.int .i32 0)∧lesz Tryz.prog 318=some 1:=by and_intros<;>kernel_rfl
@[simp] theorem ft319:sz Tryz.prog 319=some 1∧aggB Tryz.prog 319=some false∧zr Tryz.prog 319=some (.int .i32 0)∧lesz Tryz.prog 319=some 1:=by and_intros<;>kernel_rfl
@[simp] theorem ft320:plcB Tryz.prog 320=true∧fldi Tryz.prog 320 0=some (0,1,false)∧fldi Tryz.prog 320 1=some (1,1,false)∧fldi Tryz.prog 320 2=some (2,1,false)∧fldi Tryz.prog 320 3=some (3,1,false)∧fldi Tryz.prog 320 4=some (4,1,false)∧fldi Tryz.prog 320 5=some (5,1,false)∧fldi Tryz.prog 320 6=some (6,1,false)∧fldi Tryz.prog 320 7=some (7,1,false)∧fldi Tryz.prog 320 8=some (8,1,false)∧fldi Tryz.prog 320 9=some (9,1,false)∧fldi Tryz.prog 320 10=some (10,1,false)∧sz Tryz.prog 320=some 11∧aggB Tryz.prog 320=some true∧zr Tryz.prog 320=some (.agg #[.int .u64 0,.int .u64 0,.int .u32 0,.int .u8 0,.int .u8 0,.int .u8 0,.int .u8 0,.nilFunc,.pointer none,.int .i32 0,.int .i32 0])∧lesz Tryz.prog 320=some 11:=by and_intros<;>kernel_rfl
@[simp] theorem ft321:plcB Tryz.prog 321=true∧fldi Tryz.prog 321 0=some (0,1,false)∧fldi Tryz.prog 321 1=some (1,1,false)∧fldi Tryz.prog 321 2=some (2,1,false)∧fldi Tryz.prog 321 3=some (3,1,false)∧fldi Tryz.prog 321 4=some (4,1,false)∧fldi Tryz.prog 321 5=some (5,1,false)∧fldi Tryz.prog 321 6=some (6,1,false)∧fldi Tryz.prog 321 7=some (7,1,false)∧fldi Tryz.prog 321 8=some (8,1,false)∧fldi Tryz.prog 321 9=some (9,1,false)∧fldi Tryz.prog 321 10=some (10,1,false)∧sz Tryz.prog 321=some 11∧aggB Tryz.prog 321=some true∧zr Tryz.prog 321=some (.agg #[.int .u64 0,.int .u64 0,.int .u32 0,.int .u8 0,.int .u8 0,.int .u8 0,.int .u8 0,.nilFunc,.pointer none,.int .i32 0,.int .i32 0])∧lesz Tryz.prog 321=some 11:=by and_intros<;>kernel_rfl
attribute [simp] Tryz.underlying0 Tryz.underlying1 Tryz.underlying2 Tryz.underlying3 Tryz.underlying4 Tryz.underlying5 Tryz.underlying6 Tryz.underlying9 Tryz.underlying10 Tryz.underlying11 Tryz.underlying12 Tryz.underlying15 Tryz.underlying16 Tryz.underlying17 Tryz.underlying20 Tryz.underlying21 Tryz.underlying22 Tryz.underlying25 Tryz.underlying26 Tryz.underlying27 Tryz.underlying28 Tryz.underlying29 Tryz.underlying30 Tryz.underlying31 Tryz.underlying32 Tryz.underlying35 Tryz.underlying36 Tryz.underlying37 Tryz.underlying44 Tryz.underlying45 Tryz.underlying46 Tryz.underlying47 Tryz.underlying48 Tryz.underlying51 Tryz.underlying52 Tryz.underlying53 Tryz.underlying56 Tryz.underlying57 Tryz.underlying60 Tryz.underlying61
attribute [simp] Tryz.underlying62 Tryz.underlying63 Tryz.underlying64 Tryz.underlying65 Tryz.underlying66 Tryz.underlying67 Tryz.underlying70 Tryz.underlying71 Tryz.underlying72 Tryz.underlying73 Tryz.underlying74 Tryz.underlying75 Tryz.underlying76 Tryz.underlying77 Tryz.underlying78 Tryz.underlying79 Tryz.underlying80 Tryz.underlying81 Tryz.underlying82 Tryz.underlying83 Tryz.underlying84 Tryz.underlying87 Tryz.underlying88 Tryz.underlying89 Tryz.underlying90 Tryz.underlying91 Tryz.underlying92 Tryz.underlying93 Tryz.underlying94 Tryz.underlying95 Tryz.underlying96 Tryz.underlying97 Tryz.underlying100 Tryz.underlying101 Tryz.underlying102 Tryz.underlying103 Tryz.underlying104 Tryz.underlying105 Tryz.underlying106 Tryz.underlying111
attribute [simp] Tryz.underlying116 Tryz.underlying117 Tryz.underlying118 Tryz.underlying119 Tryz.underlying120 Tryz.underlying121 Tryz.underlying122 Tryz.underlying123 Tryz.underlying124 Tryz.underlying125 Tryz.underlying126 Tryz.underlying127 Tryz.underlying128 Tryz.underlying129 Tryz.underlying130 Tryz.underlying131 Tryz.underlying132 Tryz.underlying133 Tryz.underlying134 Tryz.underlying135 Tryz.underlying136 Tryz.underlying137 Tryz.underlying138 Tryz.underlying141 Tryz.underlying142 Tryz.underlying143 Tryz.underlying144 Tryz.underlying145 Tryz.underlying146 Tryz.underlying147 Tryz.underlying148 Tryz.underlying149 Tryz.underlying150 Tryz.underlying151 Tryz.underlying152 Tryz.underlying153 Tryz.underlying154 Tryz.underlying155 Tryz.underlying156 Tryz.underlying157
attribute [simp] Tryz.underlying160 Tryz.underlying161 Tryz.underlying162 Tryz.underlying163 Tryz.underlying164 Tryz.underlying165 Tryz.underlying166 Tryz.underlying167 Tryz.underlying168 Tryz.underlying169 Tryz.underlying170 Tryz.underlying171 Tryz.underlying172 Tryz.underlying173 Tryz.underlying174 Tryz.underlying175 Tryz.underlying176 Tryz.underlying177 Tryz.underlying178 Tryz.underlying179 Tryz.underlying182 Tryz.underlying183 Tryz.underlying184 Tryz.underlying185 Tryz.underlying186 Tryz.underlying187 Tryz.underlying190 Tryz.underlying191 Tryz.underlying192 Tryz.underlying195 Tryz.underlying196 Tryz.underlying197 Tryz.underlying198 Tryz.underlying199 Tryz.underlying200 Tryz.underlying201 Tryz.underlying202 Tryz.underlying203 Tryz.underlying204 Tryz.underlying205
attribute [simp] Tryz.underlying208 Tryz.underlying209 Tryz.underlying210 Tryz.underlying211 Tryz.underlying212 Tryz.underlying213 Tryz.underlying214 Tryz.underlying215 Tryz.underlying216 Tryz.underlying217 Tryz.underlying220 Tryz.underlying221 Tryz.underlying222 Tryz.underlying223 Tryz.underlying224 Tryz.underlying225 Tryz.underlying226 Tryz.underlying227 Tryz.underlying228 Tryz.underlying229 Tryz.underlying230 Tryz.underlying231 Tryz.underlying232 Tryz.underlying233 Tryz.underlying234 Tryz.underlying235 Tryz.underlying236 Tryz.underlying237 Tryz.underlying240 Tryz.underlying243 Tryz.underlying246 Tryz.underlying247 Tryz.underlying248 Tryz.underlying249 Tryz.underlying250 Tryz.underlying251 Tryz.underlying252 Tryz.underlying254 Tryz.underlying255 Tryz.underlying256
attribute [simp] Tryz.underlying257 Tryz.underlying258 Tryz.underlying259 Tryz.underlying260 Tryz.underlying261 Tryz.underlying262 Tryz.underlying263 Tryz.underlying264 Tryz.underlying265 Tryz.underlying266 Tryz.underlying267 Tryz.underlying268 Tryz.underlying269 Tryz.underlying270 Tryz.underlying271 Tryz.underlying272 Tryz.underlying273 Tryz.underlying274 Tryz.underlying275 Tryz.underlying276 Tryz.underlying277 Tryz.underlying278 Tryz.underlying279 Tryz.underlying280 Tryz.underlying281 Tryz.underlying282 Tryz.underlying283 Tryz.underlying286 Tryz.underlying287 Tryz.underlying288 Tryz.underlying289 Tryz.underlying290 Tryz.underlying291 Tryz.underlying292 Tryz.underlying293 Tryz.underlying294 Tryz.underlying295 Tryz.underlying296 Tryz.underlying297 Tryz.underlying298
attribute [simp] Tryz.underlying299 Tryz.underlying300 Tryz.underlying303 Tryz.underlying304 Tryz.underlying305 Tryz.underlying306 Tryz.underlying307 Tryz.underlying308 Tryz.underlying309 Tryz.underlying312 Tryz.underlying315 Tryz.underlying316 Tryz.underlying317 Tryz.underlying318 Tryz.underlying319 Tryz.results0 Tryz.ntmps0 Tryz.results1 Tryz.ntmps1 Tryz.results2 Tryz.ntmps2 Tryz.results3 Tryz.ntmps3 Tryz.results4 Tryz.ntmps4 Tryz.results5 Tryz.ntmps5 Tryz.results6 Tryz.ntmps6 Tryz.results7 Tryz.ntmps7 Tryz.results8 Tryz.ntmps8 Tryz.results9 Tryz.ntmps9 Tryz.results10 Tryz.ntmps10 Tryz.results11 Tryz.ntmps11 Tryz.results12
attribute [simp] Tryz.ntmps12 Tryz.results13 Tryz.ntmps13 Tryz.results14 Tryz.ntmps14 Tryz.results15 Tryz.ntmps15 Tryz.results16 Tryz.ntmps16 Tryz.results17 Tryz.ntmps17 Tryz.results18 Tryz.ntmps18 Tryz.results19 Tryz.ntmps19 Tryz.results20 Tryz.ntmps20 Tryz.results21 Tryz.ntmps21 Tryz.results22 Tryz.ntmps22 Tryz.results23 Tryz.ntmps23 Tryz.results24 Tryz.ntmps24 Tryz.results25 Tryz.ntmps25 Tryz.results26 Tryz.ntmps26 Tryz.results27 Tryz.ntmps27 Tryz.results28 Tryz.ntmps28 Tryz.results29 Tryz.ntmps29 Tryz.results30 Tryz.ntmps30 Tryz.results31 Tryz.ntmps31 Tryz.results32
attribute [simp] Tryz.ntmps32 Tryz.results33 Tryz.ntmps33 Tryz.results34 Tryz.ntmps34 Tryz.results35 Tryz.ntmps35 Tryz.results36 Tryz.ntmps36 Tryz.results37 Tryz.ntmps37 Tryz.results38 Tryz.ntmps38 Tryz.results39 Tryz.ntmps39 Tryz.results40 Tryz.ntmps40 Tryz.results41 Tryz.ntmps41 Tryz.results42 Tryz.ntmps42 Tryz.results43 Tryz.ntmps43 Tryz.results44 Tryz.ntmps44 Tryz.results45 Tryz.ntmps45 Tryz.results46 Tryz.ntmps46 Tryz.results47 Tryz.ntmps47 Tryz.results48 Tryz.ntmps48 Tryz.results49 Tryz.ntmps49 Tryz.results50 Tryz.ntmps50 Tryz.results51 Tryz.ntmps51 Tryz.results52
attribute [simp] Tryz.ntmps52 Tryz.results53 Tryz.ntmps53 Tryz.results54 Tryz.ntmps54 Tryz.results55 Tryz.ntmps55 Tryz.results56 Tryz.ntmps56 Tryz.results57 Tryz.ntmps57 Tryz.results58 Tryz.ntmps58 Tryz.results59 Tryz.ntmps59 Tryz.results60 Tryz.ntmps60 Tryz.results61 Tryz.ntmps61 Tryz.results62 Tryz.ntmps62 Tryz.results63 Tryz.ntmps63 Tryz.results64 Tryz.ntmps64 Tryz.results65 Tryz.ntmps65 Tryz.results66 Tryz.ntmps66 Tryz.results67 Tryz.ntmps67 Tryz.results68 Tryz.ntmps68 Tryz.results69 Tryz.ntmps69 Tryz.results70 Tryz.ntmps70 Tryz.results71 Tryz.ntmps71 Tryz.results72
attribute [simp] Tryz.ntmps72 Tryz.results73 Tryz.ntmps73 Tryz.results74 Tryz.ntmps74 Tryz.results75 Tryz.ntmps75 Tryz.results76 Tryz.ntmps76 Tryz.results77 Tryz.ntmps77 Tryz.results78 Tryz.ntmps78 Tryz.results79 Tryz.ntmps79 Tryz.results80 Tryz.ntmps80 Tryz.results81 Tryz.ntmps81 Tryz.results82 Tryz.ntmps82 Tryz.results83 Tryz.ntmps83 Tryz.results84 Tryz.ntmps84 Tryz.results85 Tryz.ntmps85 Tryz.results86 Tryz.ntmps86 Tryz.results87 Tryz.ntmps87 Tryz.results88 Tryz.ntmps88 Tryz.results89 Tryz.ntmps89 Tryz.results90 Tryz.ntmps90 Tryz.results91 Tryz.ntmps91 Tryz.results92
attribute [simp] Tryz.ntmps92 Tryz.results93 Tryz.ntmps93 Tryz.results94 Tryz.ntmps94 Tryz.results95 Tryz.ntmps95 Tryz.results96 Tryz.ntmps96 Tryz.results97 Tryz.ntmps97 Tryz.results98 Tryz.ntmps98 Tryz.results99 Tryz.ntmps99 Tryz.results100 Tryz.ntmps100 Tryz.results101 Tryz.ntmps101 Tryz.results102 Tryz.ntmps102 Tryz.results103 Tryz.ntmps103 Tryz.results104 Tryz.ntmps104 Tryz.results105 Tryz.ntmps105 Tryz.results106 Tryz.ntmps106 Tryz.results107 Tryz.ntmps107 Tryz.results108 Tryz.ntmps108 Tryz.results109 Tryz.ntmps109 Tryz.results110 Tryz.ntmps110 Tryz.results111 Tryz.ntmps111 Tryz.results112
attribute [simp] Tryz.ntmps112 Tryz.results113 Tryz.ntmps113 Tryz.results114 Tryz.ntmps114 Tryz.results115 Tryz.ntmps115 Tryz.results116 Tryz.ntmps116 Tryz.results117 Tryz.ntmps117 Tryz.results118 Tryz.ntmps118 Tryz.results119 Tryz.ntmps119 Tryz.results120 Tryz.ntmps120 Tryz.results121 Tryz.ntmps121 Tryz.results122 Tryz.ntmps122 Tryz.results123 Tryz.ntmps123 Tryz.results124 Tryz.ntmps124 Tryz.results125 Tryz.ntmps125 Tryz.results126 Tryz.ntmps126 Tryz.results127 Tryz.ntmps127 Tryz.results128 Tryz.ntmps128 Tryz.results129 Tryz.ntmps129 Tryz.results130 Tryz.ntmps130 Tryz.results131 Tryz.ntmps131 Tryz.results132
attribute [simp] Tryz.ntmps132 Tryz.results133 Tryz.ntmps133 Tryz.results134 Tryz.ntmps134 Tryz.results135 Tryz.ntmps135 Tryz.results136 Tryz.ntmps136 Tryz.results137 Tryz.ntmps137 Tryz.results138 Tryz.ntmps138 Tryz.results139 Tryz.ntmps139 Tryz.results140 Tryz.ntmps140 Tryz.results141 Tryz.ntmps141 Tryz.results142 Tryz.ntmps142 Tryz.results143 Tryz.ntmps143 Tryz.results144 Tryz.ntmps144 Tryz.results145 Tryz.ntmps145 Tryz.results146 Tryz.ntmps146 Tryz.results147 Tryz.ntmps147 Tryz.results148 Tryz.ntmps148 Tryz.results149 Tryz.ntmps149 Tryz.results150 Tryz.ntmps150 Tryz.results151 Tryz.ntmps151 Tryz.results152
attribute [simp] Tryz.ntmps152 Tryz.results153 Tryz.ntmps153 Tryz.results154 Tryz.ntmps154 Tryz.results155 Tryz.ntmps155 Tryz.results156 Tryz.ntmps156 Tryz.results157 Tryz.ntmps157 Tryz.results158 Tryz.ntmps158 Tryz.results159 Tryz.ntmps159 Tryz.results160 Tryz.ntmps160 Tryz.results161 Tryz.ntmps161 Tryz.results162 Tryz.ntmps162 Tryz.results163 Tryz.ntmps163 Tryz.results164 Tryz.ntmps164 Tryz.results165 Tryz.ntmps165 Tryz.results166 Tryz.ntmps166 Tryz.results167 Tryz.ntmps167 Tryz.results168 Tryz.ntmps168 Tryz.results169 Tryz.ntmps169 Tryz.results170 Tryz.ntmps170 Tryz.results171 Tryz.ntmps171 Tryz.results172
attribute [simp] Tryz.ntmps172 Tryz.results173 Tryz.ntmps173 Tryz.results174 Tryz.ntmps174 Tryz.results175 Tryz.ntmps175 Tryz.results176 Tryz.ntmps176 Tryz.results177 Tryz.ntmps177 Tryz.results178 Tryz.ntmps178 Tryz.results179 Tryz.ntmps179 Tryz.results180 Tryz.ntmps180 Tryz.results181 Tryz.ntmps181 Tryz.results182 Tryz.ntmps182 Tryz.results183 Tryz.ntmps183 Tryz.results184 Tryz.ntmps184 Tryz.results185 Tryz.ntmps185 Tryz.results186 Tryz.ntmps186 Tryz.results187 Tryz.ntmps187 Tryz.results188 Tryz.ntmps188 Tryz.results189 Tryz.ntmps189 Tryz.results190 Tryz.ntmps190 Tryz.results191 Tryz.ntmps191 Tryz.results192
attribute [simp] Tryz.ntmps192 Tryz.results193 Tryz.ntmps193 Tryz.results194 Tryz.ntmps194 Tryz.results195 Tryz.ntmps195 Tryz.results196 Tryz.ntmps196 Tryz.results197 Tryz.ntmps197 Tryz.results198 Tryz.ntmps198 Tryz.results199 Tryz.ntmps199 Tryz.results200 Tryz.ntmps200 Tryz.results201 Tryz.ntmps201 Tryz.results202 Tryz.ntmps202 Tryz.results203 Tryz.ntmps203 Tryz.results204 Tryz.ntmps204 Tryz.results205 Tryz.ntmps205 Tryz.results206 Tryz.ntmps206 Tryz.results207 Tryz.ntmps207 Tryz.results208 Tryz.ntmps208 Tryz.results209 Tryz.ntmps209 Tryz.results210 Tryz.ntmps210 Tryz.results211 Tryz.ntmps211 Tryz.results212
attribute [simp] Tryz.ntmps212 Tryz.results213 Tryz.ntmps213 Tryz.results214 Tryz.ntmps214 Tryz.results215 Tryz.ntmps215 Tryz.results216 Tryz.ntmps216 Tryz.results217 Tryz.ntmps217 Tryz.results218 Tryz.ntmps218 Tryz.results219 Tryz.ntmps219 Tryz.results220 Tryz.ntmps220 Tryz.results221 Tryz.ntmps221 Tryz.results222 Tryz.ntmps222 Tryz.results223 Tryz.ntmps223 Tryz.results224 Tryz.ntmps224 Tryz.results225 Tryz.ntmps225 Tryz.results226 Tryz.ntmps226 Tryz.results227 Tryz.ntmps227 Tryz.results228 Tryz.ntmps228 Tryz.results229 Tryz.ntmps229 Tryz.results230 Tryz.ntmps230 Tryz.results231 Tryz.ntmps231 Tryz.results232
attribute [simp] Tryz.ntmps232 Tryz.results233 Tryz.ntmps233 Tryz.results234 Tryz.ntmps234 Tryz.results235 Tryz.ntmps235 Tryz.results236 Tryz.ntmps236 Tryz.results237 Tryz.ntmps237 Tryz.results238 Tryz.ntmps238 Tryz.results239 Tryz.ntmps239 Tryz.results240 Tryz.ntmps240 Tryz.results241 Tryz.ntmps241 Tryz.results242 Tryz.ntmps242 Tryz.results243 Tryz.ntmps243 Tryz.results244 Tryz.ntmps244 Tryz.results245 Tryz.ntmps245 Tryz.results246 Tryz.ntmps246 Tryz.results247 Tryz.ntmps247 Tryz.results248 Tryz.ntmps248 Tryz.results249 Tryz.ntmps249 Tryz.results250 Tryz.ntmps250 Tryz.results251 Tryz.ntmps251 Tryz.results252
attribute [simp] Tryz.ntmps252 Tryz.results253 Tryz.ntmps253 Tryz.results254 Tryz.ntmps254 Tryz.results255 Tryz.ntmps255 Tryz.results256 Tryz.ntmps256 Tryz.results257 Tryz.ntmps257 Tryz.results258 Tryz.ntmps258 Tryz.results259 Tryz.ntmps259 Tryz.results260 Tryz.ntmps260 Tryz.results261 Tryz.ntmps261 Tryz.results262 Tryz.ntmps262 Tryz.results263 Tryz.ntmps263 Tryz.results264 Tryz.ntmps264 Tryz.results265 Tryz.ntmps265 Tryz.results266 Tryz.ntmps266 Tryz.results267 Tryz.ntmps267 Tryz.results268 Tryz.ntmps268 Tryz.results269 Tryz.ntmps269 Tryz.results270 Tryz.ntmps270 Tryz.results271 Tryz.ntmps271 Tryz.results272
attribute [simp] Tryz.ntmps272 Tryz.results273 Tryz.ntmps273 Tryz.results274 Tryz.ntmps274 Tryz.results275 Tryz.ntmps275 Tryz.results276 Tryz.ntmps276 Tryz.results277 Tryz.ntmps277 Tryz.results278 Tryz.ntmps278 Tryz.results279 Tryz.ntmps279 Tryz.results280 Tryz.ntmps280 Tryz.results281 Tryz.ntmps281 Tryz.results282 Tryz.ntmps282 Tryz.results283 Tryz.ntmps283 Tryz.results284 Tryz.ntmps284 Tryz.results285 Tryz.ntmps285 Tryz.results286 Tryz.ntmps286 Tryz.results287 Tryz.ntmps287 Tryz.results288 Tryz.ntmps288 Tryz.results289 Tryz.ntmps289 Tryz.results290 Tryz.ntmps290 Tryz.results291 Tryz.ntmps291 Tryz.results292
attribute [simp] Tryz.ntmps292 Tryz.results293 Tryz.ntmps293 Tryz.results294 Tryz.ntmps294 Tryz.results295 Tryz.ntmps295 Tryz.results296 Tryz.ntmps296 Tryz.results297 Tryz.ntmps297 Tryz.results298 Tryz.ntmps298 Tryz.results299 Tryz.ntmps299 Tryz.results300 Tryz.ntmps300 Tryz.results301 Tryz.ntmps301 Tryz.results302 Tryz.ntmps302 Tryz.results303 Tryz.ntmps303 Tryz.results304 Tryz.ntmps304 Tryz.results305 Tryz.ntmps305 Tryz.results306 Tryz.ntmps306 Tryz.results307 Tryz.ntmps307 Tryz.results308 Tryz.ntmps308 Tryz.results309 Tryz.ntmps309 Tryz.results310 Tryz.ntmps310 Tryz.results311 Tryz.ntmps311 Tryz.results312
attribute [simp] Tryz.ntmps312 Tryz.results313 Tryz.ntmps313 Tryz.results314 Tryz.ntmps314 Tryz.results315 Tryz.ntmps315 Tryz.results316 Tryz.ntmps316 Tryz.results317 Tryz.ntmps317 Tryz.results318 Tryz.ntmps318 Tryz.results319 Tryz.ntmps319 Tryz.results320 Tryz.ntmps320 Tryz.results321 Tryz.ntmps321 Tryz.results322 Tryz.ntmps322 Tryz.results323 Tryz.ntmps323 Tryz.results324 Tryz.ntmps324 Tryz.results325 Tryz.ntmps325 Tryz.results326 Tryz.ntmps326 Tryz.results327 Tryz.ntmps327 Tryz.results328 Tryz.ntmps328 Tryz.results329 Tryz.ntmps329 Tryz.results330 Tryz.ntmps330 Tryz.results331 Tryz.ntmps331 Tryz.results332
attribute [simp] Tryz.ntmps332 Tryz.results333 Tryz.ntmps333 Tryz.results334 Tryz.ntmps334 Tryz.results335 Tryz.ntmps335 Tryz.results336 Tryz.ntmps336 Tryz.results337 Tryz.ntmps337 Tryz.results338 Tryz.ntmps338 Tryz.results339 Tryz.ntmps339 Tryz.results340 Tryz.ntmps340 Tryz.results341 Tryz.ntmps341 Tryz.results342 Tryz.ntmps342 Tryz.results343 Tryz.ntmps343 Tryz.results344 Tryz.ntmps344 Tryz.results345 Tryz.ntmps345 Tryz.results346 Tryz.ntmps346 Tryz.results347 Tryz.ntmps347 Tryz.results348 Tryz.ntmps348 Tryz.results349 Tryz.ntmps349 Tryz.results350 Tryz.ntmps350 Tryz.results351 Tryz.ntmps351 Tryz.results352
attribute [simp] Tryz.ntmps352 Tryz.results353 Tryz.ntmps353 Tryz.results354 Tryz.ntmps354 Tryz.results355 Tryz.ntmps355 Tryz.results356 Tryz.ntmps356 Tryz.results357 Tryz.ntmps357 Tryz.results358 Tryz.ntmps358 Tryz.results359 Tryz.ntmps359 Tryz.results360 Tryz.ntmps360 Tryz.results361 Tryz.ntmps361 Tryz.results362 Tryz.ntmps362 Tryz.results363 Tryz.ntmps363 Tryz.results364 Tryz.ntmps364 Tryz.results365 Tryz.ntmps365 Tryz.results366 Tryz.ntmps366 Tryz.results367 Tryz.ntmps367 Tryz.results368 Tryz.ntmps368 Tryz.results369 Tryz.ntmps369 Tryz.results370 Tryz.ntmps370 Tryz.results371 Tryz.ntmps371 Tryz.results372
attribute [simp] Tryz.ntmps372 Tryz.results373 Tryz.ntmps373 Tryz.results374 Tryz.ntmps374 Tryz.results375 Tryz.ntmps375 Tryz.results376 Tryz.ntmps376 Tryz.results377 Tryz.ntmps377 Tryz.results378 Tryz.ntmps378 Tryz.results379 Tryz.ntmps379 Tryz.results380 Tryz.ntmps380 Tryz.results381 Tryz.ntmps381 Tryz.results382 Tryz.ntmps382 Tryz.results383 Tryz.ntmps383 Tryz.results384 Tryz.ntmps384 Tryz.results385 Tryz.ntmps385 Tryz.results386 Tryz.ntmps386 Tryz.results387 Tryz.ntmps387 Tryz.results388 Tryz.ntmps388 Tryz.results389 Tryz.ntmps389 Tryz.results390 Tryz.ntmps390 Tryz.results391 Tryz.ntmps391 Tryz.results392
attribute [simp] Tryz.ntmps392
theorem mixed:Tryz.prog.follows .mixedOrders=true:=by kernel_rfl
end Go.Proofs.YtcgiaiimbnoknaaGreatDoor
namespace Go.Lg
open Go.Tg Go.RowKit
section
variable {P:Program} {H H':LH} {v x:Value} {xs new:List Value} {e t:TypeId} {N n m s:Nat} {b:LB}
def RowN (N:Nat) (H:LH) (e:TypeId) (s:Nat) (v:Value) (n:Nat) (xs:List Value):Prop:=
 xs.length=n*s∧((v=.slice none 0 0∧n=0)∨ ∃k c rest,v=sl k n c∧N≤k∧k<H.n∧H.get k=some ⟨xs++rest,e,true⟩∧n≤c∧(xs++rest).length=c*s)
theorem RowN.nil:RowN N H e s (.slice none 0 0) 0 []:=⟨by simp,.inl ⟨rfl,rfl⟩⟩
theorem RowN.lt (h:RowN N H e s v n xs):xs.length=n*s:=h.1
theorem RowN.len (h:RowN N H e s v n xs) (hu:P.underlying t=some (.slice e)):lbuiltin P .len [t] [v] H'=some (.int .i64 n,H'):=by
 rcases h.2 with⟨rfl,rfl⟩|⟨k,c,rest,rfl,_⟩
 ·exact lbuiltin_len_slice hu
 ·exact lbuiltin_len_slice hu
theorem RowN.cell (h:RowN N H e s v n xs):cellB v=true:=by
 rcases h.2 with⟨rfl,rfl⟩|⟨k,c,rest,rfl,_⟩<;>simp
theorem RowN.keep (h:RowN N H e s v n xs) (hn:H.n≤H'.n) (hk: ∀k,N≤k→ ¬offRow v k→k<H.n→H'.get k=H.get k):RowN N H' e s v n xs:=by
 refine⟨h.1,?_⟩
 rcases h.2 with⟨rfl,rfl⟩|⟨k,c,rest,rfl,h1,h2,h3,h4,h5⟩
 ·exact .inl ⟨rfl,rfl⟩
 ·exact .inr ⟨k,c,rest,rfl,h1,by omega,by rw [hk k h1 (fun h=>h _ _ rfl) h2];exact h3,h4,h5⟩
theorem RowN.off_of_elem (h:RowN N H e s v n xs) {l:Nat} (hl:H.get l=some b) (hne:b.elem≠e):offRow v l:=by
 rcases h.2 with⟨rfl,rfl⟩|⟨k,c,rest,rfl,_,_,h2,_⟩
 ·exact off_nil
 ·intro n c h
  injection h with h
  injection h with h
  injection h with h
  subst h
  rw [h2]at hl
  injection hl with hl
  subst hl
  exact hne rfl
theorem RowN.off_ge (h:RowN N H e s v n xs) {l:Nat} (hl:H.n≤l):offRow v l:=by
 rcases h.2 with⟨rfl,rfl⟩|⟨k,c,rest,rfl,_,h1,_⟩
 ·exact off_nil
 ·intro n c h
  injection h with h
  injection h with h
  injection h with h
  omega
theorem RowN.off_lt (h:RowN N H e s v n xs) {l:Nat} (hl:l<N):offRow v l:=by
 rcases h.2 with⟨rfl,rfl⟩|⟨k,c,rest,rfl,h1,_⟩
 ·exact off_nil
 ·intro n c h
  injection h with h
  injection h with h
  injection h with h
  omega
def Full (v:Value):Prop:= ∀k n c,v=sl k n c→c=n
theorem full_new {k n:Nat} :Full (sl k n n):=fun k' n' c' h=>by
 injection h with _ h1 h2
 omega
theorem full_nil:Full (.slice none 0 0):=fun k n c h=>by cases h
structure Kept (H H':LH) (v v':Value):Prop where
 le:H.n≤H'.n
 get: ∀k,k<H.n→offRow v k→H'.get k=H.get k
 off: ∀k,k<H.n→offRow v k→offRow v' k
 base:H'.base=H.base
 ng:H'.ng=H.ng
theorem RowN.app (h:RowN N H e s v n xs) (hu:P.underlying t=some (.slice e)) (hs:lesz P e=some s) (hc:new.all cellB=true) (hl:new.length=m*s) (hm:n+m≤maxElems) (hN:N≤H.n) (hf:m≤1∨Full v):
  ∃v' H',lapp P t v (some (m,new)) H=some (v',H')∧RowN N H' e s v' (n+m) (xs++new)∧Kept H H' v v'∧(Full v→Full v'):=by
 have hlen:(xs++new).length=(n+m)*s:=by rw [List.length_append,h.1,hl,Nat.add_mul]
 by_cases h0:m=0
 ·subst h0
  have hn0:new= []:=List.eq_nil_of_length_eq_zero (by rw [hl,Nat.zero_mul])
  subst hn0
  refine⟨v,H,?_,by simpa using h,⟨Nat.le_refl _,fun _ _ _=>rfl,fun _ _ h=>h,rfl,rfl⟩,fun h=>h⟩
  rcases h.2 with⟨rfl,rfl⟩|⟨k,c,rest,rfl,_,_,h2,h3,h4⟩
  ·exact lapp_nil0 hu hs
  ·simp only [lapp,hu,hs,hc,h2,if_true]
   rw [if_pos ⟨trivial,trivial,trivial,h4,h3⟩]
 rcases h.2 with⟨rfl,rfl⟩|⟨k,c,rest,rfl,h1,h2,h3,h4,h5⟩
 ·have hx:xs= []:=List.eq_nil_of_length_eq_zero (by rw [h.1,Nat.zero_mul])
  subst hx
  refine⟨_,_,lapp_nil hu hs hc h0 (by omega),⟨hlen,.inr ⟨H.n,m,[],by simp,hN,by simp,by simp,by omega,by simpa using hl⟩⟩,⟨by simp,fun k hk _=>get_new_ne (by omega),fun k hk _ n c h=>?_,rfl,rfl⟩,fun _=>full_new⟩
  injection h with h
  injection h with h
  injection h with h
  omega
 ·rcases Nat.lt_or_ge c (n+m)with hroom|hroom
  ·by_cases hnc:n=c
   ·subst hnc
    have hr:rest= []:=List.eq_nil_of_length_eq_zero (by rw [List.length_append,h.1]at h5;omega)
    subst hr
    rw [List.append_nil]at h3
    have ha:=lapp_grow (P:=P) (H:=H) (t:=t) (m:=m) (new:=new) (n:=n) (s:=s) hu hs hc h0 hm h3 rfl rfl h.1
    refine⟨_,_,ha,⟨hlen,.inr ⟨H.n,n+m,[],by simp,hN,by simp,?_,Nat.le_refl _,by simpa using hlen⟩⟩,⟨by simp,fun j hj ho=>?_,fun j hj ho n c h=>?_,rfl,rfl⟩,fun _=>full_new⟩
    ·rw [show H.n=(H.kill k).n from rfl,get_new];simp
    ·have hjk:j≠k:=fun e=>ho _ _ (by rw [e])
     rw [get_new_ne (by simp;omega),get_kill_ne hjk]
    ·injection h with h
     injection h with h
     injection h with h
     omega
   ·exfalso
    rcases hf with hf|hf
    ·omega
    ·exact hnc (hf k n c rfl).symm
  ·have ha:=lapp_in (P:=P) (H:=H) (t:=t) (m:=m) (new:=new) (n:=n) (cp:=c) (s:=s) hu hs hc h0 h3 rfl rfl h5 hroom
   have hrest:rest.length=(c-n)*s:=by
    rw [List.length_append,h.1]at h5
    rw [Nat.sub_mul];omega
   have hmr:m*s≤(c-n)*s:=Nat.mul_le_mul_right _ (by omega)
   refine⟨_,_,ha,⟨hlen,.inr ⟨k,c,rest.drop (m*s),rfl,h1,h2,?_,hroom,?_⟩⟩,⟨Nat.le_refl _,fun j hj ho=>?_,fun j hj ho n c' h=>?_,rfl,rfl⟩,fun hf=>absurd (hf k n c rfl) (by omega)⟩
   ·rw [get_set]
    congr 2
    simp only [splice]
    rw [←h.1,List.take_left',List.drop_append,hl]
    ·simp [List.drop_eq_nil_of_le]
    ·rfl
   ·rw [List.length_append,hlen,List.length_drop,hrest,←Nat.sub_mul,←Nat.add_mul]
    congr 1;omega
   ·have hjk:j≠k:=fun e=>ho _ _ (by rw [e])
    rw [get_set_ne hjk]
   ·injection h with h
    injection h with h
    injection h with h
    subst h
    exact ho _ _ rfl
end
section
variable {P:Program} {H:LH} {t c:TypeId} {kd kd':IntKind} {a b:Int} {k:FloatKind} {x y r:Nat}
def bAnd (kd:IntKind) (a b:Int):Int:=kd.wrap ((BitVec.ofInt kd.bits a&&&BitVec.ofInt kd.bits b).toNat)
def bOr (kd:IntKind) (a b:Int):Int:=kd.wrap ((BitVec.ofInt kd.bits a|||BitVec.ofInt kd.bits b).toNat)
def bXor (kd:IntKind) (a b:Int):Int:=kd.wrap ((BitVec.ofInt kd.bits a^^^BitVec.ofInt kd.bits b).toNat)
def bNot (kd:IntKind) (a b:Int):Int:=kd.wrap ((BitVec.ofInt kd.bits a&&& ~~~ BitVec.ofInt kd.bits b).toNat)
@[simp] theorem lbin_and:lbin P .and t (.int kd a) (.int kd b)=some (.int kd (bAnd kd a b)):=lbin_ii (by simp [binOp,Op.intBits,bAnd]) rfl
@[simp] theorem lbin_or:lbin P .or t (.int kd a) (.int kd b)=some (.int kd (bOr kd a b)):=lbin_ii (by simp [binOp,Op.intBits,bOr]) rfl
@[simp] theorem lbin_xor:lbin P .xor t (.int kd a) (.int kd b)=some (.int kd (bXor kd a b)):=lbin_ii (by simp [binOp,Op.intBits,bXor]) rfl
@[simp] theorem lbin_andNot:lbin P .andNot t (.int kd a) (.int kd b)=some (.int kd (bNot kd a b)):=lbin_ii (by simp [binOp,Op.intBits,bNot]) rfl
theorem lbin_sh {op:BinOp} {v:Value} (h:pureVal P (binOp op t (.int kd a) (.int kd' b))=some v) (hv:flatB v=true):lbin P op t (.int kd a) (.int kd' b)=some v:=by
 have e:pureVal P (do eqGuard op t (.tmp 0) (.tmp 0) (.int kd a) (.int kd' b);binOp op t (.int kd a) (.int kd' b):Sem Value)=some v:=by
  rw [←h];cases op<;>rfl
 show pureFlat P (do eqGuard op t (.tmp 0) (.tmp 0) _ _;binOp op t _ _)=some v
 unfold pureFlat
 rw [e]
 simp only [hv,if_true]
@[simp] theorem lbin_shl (h:0≤b):lbin P .shl t (.int kd a) (.int kd' b)=some (.int kd (kd.wrap (a*2^(min b.toNat kd.bits)))):=lbin_sh (by
 have: ¬b<0:=by omega
 simp [binOp,Op.shift,this]) rfl
@[simp] theorem lbin_shr (h:0≤b):lbin P .shr t (.int kd a) (.int kd' b)=some (.int kd (a.fdiv (2^(min b.toNat kd.bits)))):=lbin_sh (by
 have: ¬b<0:=by omega
 simp [binOp,Op.shift,this]) rfl
theorem ofInt_nat {n:Nat} {m:Nat} :(BitVec.ofInt n (m:Int)).toNat=m%2^n:=by
 rw [BitVec.toNat_ofInt];omega
@[simp ↓] theorem ev_float {fr:Fr} :ev fr (.const (.float k x))=.float k x:=rfl
@[simp] theorem flat_float:flatB (.float k x)=true:=by simp [flatB,flat1B,atomB]
@[simp] theorem cell_float:cellB (.float k x)=true:=by simp only [cellB]
theorem lbin_ff {op:BinOp} {v:Value} (h:pureVal P (binOp op t (.float k x) (.float k y))=some v) (hv:flatB v=true):lbin P op t (.float k x) (.float k y)=some v:=by
 have e:pureVal P (do eqGuard op t (.tmp 0) (.tmp 0) (.float k x) (.float k y);binOp op t (.float k x) (.float k y):Sem Value)=some v:=by
  rw [←h];cases op<;>rfl
 show pureFlat P (do eqGuard op t (.tmp 0) (.tmp 0) _ _;binOp op t _ _)=some v
 unfold pureFlat
 rw [e]
 simp only [hv,if_true]
theorem lbin_feq:lbin P .eql t (.float k x) (.float k y)=some (.bool (k.format.order x y==some .eq)):=lbin_ff (by
 simp only [binOp,Op.floatCmp,ne_eq,not_true_eq_false,if_false,pureVal_pure]) rfl
theorem lbin_fne:lbin P .neq t (.float k x) (.float k y)=some (.bool (k.format.order x y !=some .eq)):=lbin_ff (by
 simp only [binOp,Op.floatCmp,ne_eq,not_true_eq_false,if_false,pureVal_pure]) rfl
theorem lbin_flt:lbin P .lss t (.float k x) (.float k y)=some (.bool (k.format.order x y==some .lt)):=lbin_ff (by
 simp only [binOp,Op.floatCmp,ne_eq,not_true_eq_false,if_false,pureVal_pure]) rfl
theorem lbin_fgt:lbin P .gtr t (.float k x) (.float k y)=some (.bool (k.format.order x y==some .gt)):=lbin_ff (by
 simp only [binOp,Op.floatCmp,ne_eq,not_true_eq_false,if_false,pureVal_pure]) rfl
theorem lconv_if {n:Int} (h1:P.underlying t=some (.int kd)) (h2:P.underlying c=some (.float k)):lconv P t c (.int kd n) H=some (.float k (k.nearest n)):=by
 have e:pureVal P (convert t c (.int kd n))=some (.float k (k.nearest n)):=by
  simp only [convert,pureVal_bind,pureVal_und,h1,h2,Option.bind_some]
  rfl
 unfold lconv
 simp only [flat_int,if_true,pureFlat,e,flat_float]
attribute [simp] lbin_feq lbin_fne lbin_flt lbin_fgt lconv_if
end
def flatSpec (g:List Value→Option Value):Lg.Spec:=fun args H=>(g args).map fun v=>(v,H)
theorem specOk_flat {P:Program} {f:FuncId} {g:List Value→Option Value} (he:Entered P f)
  (h: ∀args v,g args=some v→(∀x∈args,flatB x=true)∧flatB v=true∧ ∀w,Calls P f args.toArray w fun e w'=>e=.returned v∧Change (fun _=>False) w w'):SpecOk P f (flatSpec g):=by
 intro args H v H' hs
 unfold flatSpec at hs
 obtain⟨u,hu,e⟩:=Option.map_eq_some_iff.1 hs
 simp only [Prod.mk.injEq]at e
 obtain⟨rfl,rfl⟩:=e
 obtain⟨h1,h2,h3⟩:=h args u hu
 exact .inl ⟨he,callOk_flatC h1 h2 h3⟩
theorem change_of_below {w w':World} (h:Below w.heap.size w w'):Change (fun _=>False) w w':=⟨h.os,h.tape,h.output,h.size,fun k hk _=>h.block k hk⟩
theorem same_mono {P:Program} {f:FuncId} {args:Array Value} {w:World} {v:Value} (h:Calls P f args w fun e w'=>e=.returned v∧w'=w):Calls P f args w fun e w'=>e=.returned v∧Change (fun _=>False) w w':=
 h.mono fun e w' ⟨h1,h2⟩=>⟨h1,by rw [h2];exact Change.refl _ _⟩
theorem below_mono {P:Program} {f:FuncId} {args:Array Value} {w:World} {v:Value} (h:Calls P f args w fun e w'=>e=.returned v∧Below w.heap.size w w'):Calls P f args w fun e w'=>e=.returned v∧Change (fun _=>False) w w':=
 h.mono fun e w' ⟨h1,h2⟩=>⟨h1,change_of_below h2⟩
theorem flat2 {x y:Value} (hx:flatB x=true) (hy:flatB y=true): ∀z∈ [x,y],flatB z=true:=by
 intro z hz
 rcases List.mem_cons.1 hz with rfl|hz
 ·exact hx
 ·rcases List.mem_cons.1 hz with rfl|hz
  ·exact hy
  ·cases hz
theorem flat1 {x:Value} (hx:flatB x=true): ∀z∈ [x],flatB z=true:=by
 intro z hz
 rcases List.mem_cons.1 hz with rfl|hz
 ·exact hx
 ·cases hz
theorem LC_flat {P:Program} {E:Ext} {f:FuncId} {g:List Value→Option Value} {args:List Value} {v:Value} {H:LH} (he:E f=some (flatSpec g)) (hg:g args=some v):LC P E f args H=some (v,H):=LC_ext he (by simp [flatSpec,hg])
end Go.Lg
namespace Go.Proofs.YtcgiaiimbnoknaaGreatDoor
open Go.Lg Go.Tg
def gIndexByte:List Value→Option Value
 | [.string s,.int .u8 c]=>some (.int .i64 (Lib.indexByte s.data.toList c.toNat.toUInt8))
 |_=>none
theorem ok_IndexByte:SpecOk Tryz.prog 172 (flatSpec gIndexByte):=specOk_flat ⟨_,Tryz.func172,rfl,by decide⟩ fun args v h=>by
 unfold gIndexByte at h
 split at h
 ·injection h with h;subst h
  exact⟨flat2 rfl rfl,rfl,fun w=>same_mono (Tryz.strings_IndexByte _ _ w)⟩
 ·cases h
end Go.Proofs.YtcgiaiimbnoknaaGreatDoor
set_option maxRecDepth 100000
namespace Go.Lg
open Go.Tg Go.RowKit
section
variable {P:Program} {H H':LH} {ι:Ren} {w w':World}
theorem Rel.cell0 (h:Rel P H ι w) {l i:Nat} {b:LB} {v:Value} (hb:H.get l=some b) (hv:b.cells[i]?=some v): ∃v',w.cell? ⟨(ι l).blk,(ι l).off+i,none⟩=some v'∧VR H.D ι v v':=by
 obtain⟨arr,t,f,hw,_,h1,_⟩:=h.blk l b hb
 obtain⟨v',h2,h3⟩:=h1 i v hv
 exact⟨v',by simp [World.cell?,hw,h2],h3⟩
theorem Rel.row (h:Rel P H ι w) {l:Nat} {b:LB} (hb:H.get l=some b) (hrw:b.rw=true):(ι l).off=0:=by
 obtain⟨arr,t,f,hw,_,_,h1⟩:=h.blk l b hb
 exact(h1 hrw).1
theorem vr_row {D:Nat→Prop} {g o n c:Nat} {v':Value} (h:VR D ι (.slice (some ⟨g,o,none⟩) n c) v') (h0:n≠0):v'=.slice (some ⟨(ι g).blk,(ι g).off+o,none⟩) n (c+(ι g).slack):=by
 cases h with
 |flat _ hv=>simp [flatB,flat1B,atomB]at hv
 |slice _ _ _ _ _ _=>rfl
 |slice0 _ _ _ _=>exact absurd rfl h0
theorem out_kill (h:Rel P H ι w) {l:Nat} {b:LB} (hb:H.get l=some b) (hrw:b.rw=true) (hc:Change (fun k=>k=(ι l).blk) w w'):Out P H ι w (H.kill l) ι w':=by
 have hRW:RW H ι (ι l).blk:=⟨l,b,hb,hrw,rfl⟩
 refine⟨rel_off (rel_kill h l) hc ?_,Nat.le_refl _,fun _ h=>h,fun _ _=>rfl,hc.mono (fun k _ e=>by rw [e];exact hRW),?_,?_,rfl⟩
 ·rintro k rfl
  refine⟨?_,fun hk=>(h.pin _ hk).2.2 hRW⟩
  rintro⟨l',b',hb',e⟩
  have hb2:(H.kill l).get l'=some b':=hb'
  have hne:l'≠l:=by rintro rfl;simp at hb2
  rw [get_kill_ne hne]at hb2
  exact h.sep l l' b b' hb hb2 hrw (Ne.symm hne) e.symm
 ·rintro k ⟨l',b',hb',hr,e⟩
  have hb2:(H.kill l).get l'=some b':=hb'
  have hne:l'≠l:=by rintro rfl;simp at hb2
  rw [get_kill_ne hne]at hb2
  exact .inl ⟨l',b',hb2,hr,e⟩
 ·rintro k ⟨l',b',hb',e⟩
  have hb2:(H.kill l).get l'=some b':=hb'
  have hne:l'≠l:=by rintro rfl;simp at hb2
  rw [get_kill_ne hne]at hb2
  exact .inl ⟨l',b',hb2,e⟩
end
end Go.Lg
namespace Go.Proofs.YtcgiaiimbnoknaaGreatDoor
open Go.Lg Go.Tg
theorem one_ptr {P:Program} {H:LH} {ι:Ren} {b:Nat} {args':Array Value} (hl: [Value.pointer (some ⟨b,0,none⟩)].length=args'.size) (h: ∀(i:Nat) (x y:Value),[Value.pointer (some ⟨b,0,none⟩)][i]?=some x→args'[i]?=some y→VR H.D ι x y):args'=#[.pointer (some ⟨(ι b).blk,(ι b).off,none⟩)]:=by
 have h1:args'.size=1:=hl.symm
 have hv:=h 0 _ _ rfl (Array.getElem?_eq_getElem (by omega))
 obtain⟨_,e⟩:=vr_ptr hv
 apply Array.ext
 ·simp [h1]
 ·intro i h2 h3
  obtain rfl:i=0:=by omega
  rw [e];simp
def specCopy:Lg.Spec:=fun args H=>match args with
 | [.pointer (some ⟨b,0,none⟩)]=>match H.get b with
  |some ⟨[.pointer none,v],e,true⟩=>if e=207 then some (.tuple #[],H.set b ⟨[ptr b 0,v],e,true⟩)else none
  |some ⟨[.pointer (some ⟨b',0,none⟩),v],e,true⟩=>if b'=b then some (.tuple #[],H)else none
  |_=>none
 |_=>none
theorem ok_Copy:SpecOk Tryz.prog 269 specCopy:=by
 intro args H v H' hs
 refine .inl ⟨⟨_,Tryz.func269,rfl,by decide⟩,?_⟩
 unfold specCopy at hs
 split at hs
 ·rename_i b
  split at hs
  ·rename_i x e hg
   split at hs
   ·rename_i he
    subst he
    simp only [Option.some.injEq,Prod.mk.injEq]at hs
    obtain⟨rfl,rfl⟩:=hs
    intro ι w args' hrel hl ha
    obtain rfl:=one_ptr (P:=Tryz.prog) hl ha
    have hoff:=hrel.row hg rfl
    rw [hoff]
    obtain⟨arr,t,f,hw,hsz,hcells,hrw⟩:=hrel.blk b _ hg
    obtain⟨_,hel,s,hs1,hs2,hs3⟩:=hrw rfl
    obtain⟨rfl,rfl⟩:=ElOk.plain hel (show sz Tryz.prog 207=some 2 by kernel_rfl)
    have hs1':s=2:=Option.some.inj (hs1.symm.trans (show sz Tryz.prog 207=some 2 by kernel_rfl))
    subst hs1'
    have hc0:w.cell? ⟨(ι b).blk,0,none⟩=some (.pointer none):=by
     obtain⟨v',h1,h2⟩:=hrel.cell0 (i:=0) hg rfl
     rw [hoff]at h1
     rw [h1,flat_eq h2 rfl]
    refine(bld_fresh (ι b).blk (ι b).slack w hc0 (by simp [World.shape?,hw,hs2]) (by simp [World.frozen?,hw])).mono ?_
    rintro e w' ⟨rfl,rfl⟩
    refine⟨ι,_,rfl,?_,.flat _ rfl⟩
    refine rel_set hrel (b:=⟨[.pointer none,x],207,true⟩) (b':=⟨[ptr b 0,x],207,true⟩) hg rfl rfl rfl rfl hw (arr':=arr.setIfInBounds 0 (.pointer (some ⟨(ι b).blk,0,none⟩))) (by simp) ?_ ?_ ?_
    ·intro i y hy
     cases i with
     |zero=>
      simp only [List.getElem?_cons_zero,Option.some.injEq]at hy
      subst hy
      refine⟨.pointer (some ⟨(ι b).blk,0,none⟩),?_,?_⟩
      ·rw [Array.getElem?_setIfInBounds_self_of_lt (by rw [hs2];simp;omega)]
      ·have:=VR.ptr (n:=H.D) (ι:=ι) b 0 (hrel.live hg)
       rw [hoff]at this;exact this
     |succ i=>
      obtain⟨y',h1,h2⟩:=hcells (i+1) y hy
      rw [hoff,Nat.zero_add]at h1
      exact⟨y',by rw [Array.getElem?_setIfInBounds_ne (by omega)];exact h1,h2⟩
    ·simp [World.setCell,Array.getElem?_modify,hw]
    ·refine⟨rfl,rfl,rfl,by simp [World.setCell],fun k hk hn=>?_⟩
     simp only [World.setCell,Array.getElem?_modify]
     rw [if_neg (fun e=>hn e.symm)]
   ·cases hs
  ·rename_i b' x e hg
   split at hs
   ·rename_i he
    subst he
    simp only [Option.some.injEq,Prod.mk.injEq]at hs
    obtain⟨rfl,rfl⟩:=hs
    intro ι w args' hrel hl ha
    obtain rfl:=one_ptr (P:=Tryz.prog) hl ha
    have hoff:=hrel.row hg rfl
    have hc0:w.cell? ⟨(ι b').blk,0,none⟩=some (.pointer (some ⟨(ι b').blk,0,none⟩)):=by
     obtain⟨v',h1,h2⟩:=hrel.cell0 (i:=0) hg rfl
     rw [hoff]at h1
     rw [h1,(vr_ptr h2).2,hoff]
    rw [hoff]
    refine(bld_used (ι b').blk w hc0).mono ?_
    rintro e w' ⟨rfl,rfl⟩
    exact⟨ι,_,rfl,Out.refl hrel,.flat _ rfl⟩
   ·cases hs
  ·cases hs
 ·cases hs
open Classical in
noncomputable def specBStr:Lg.Spec:=fun args H=>match args with
 | [.pointer (some ⟨b,0,none⟩)]=>match H.get b with
  |some ⟨[_,.slice none 0 0],_,true⟩=>some (str [],H)
  |some ⟨[_,.slice (some ⟨g,0,none⟩) n c],_,true⟩=>match H.get g with
   |some ⟨cs,e,true⟩=>if∃l:List UInt8,l≠ []∧cs.take n=l.map bv∧l.length=n∧n≤c∧n≤maxLen∧e=5 then(lbs (cs.take n)).map fun l=>(str l,H.kill g)else none
   |_=>none
  |_=>none
 |_=>none
theorem ok_BStr:SpecOk Tryz.prog 236 specBStr:=by
 intro args H v H' hs
 refine .inl ⟨⟨_,Tryz.func236,rfl,by decide⟩,?_⟩
 unfold specBStr at hs
 split at hs
 ·rename_i b
  split at hs
  ·rename_i p e hg
   simp only [Option.some.injEq,Prod.mk.injEq]at hs
   obtain⟨rfl,rfl⟩:=hs
   intro ι w args' hrel hl ha
   obtain rfl:=one_ptr (P:=Tryz.prog) hl ha
   have hoff:=hrel.row hg rfl
   have hc1:w.cell? ⟨(ι b).blk,1,none⟩=some (.slice none 0 0):=by
    obtain⟨v',h1,h2⟩:=hrel.cell0 (i:=1) hg rfl
    rw [hoff]at h1
    rw [h1,flat_eq h2 rfl]
   rw [hoff]
   refine(bld_string_nil (ι b).blk w hc1).mono ?_
   rintro e w' ⟨rfl,hc⟩
   exact⟨ι,_,rfl,out_change hrel hc,.flat _ rfl⟩
  ·rename_i p g n c e hg
   split at hs
   ·rename_i cs e2 hgg
    split at hs
    ·rename_i hex
     obtain⟨l,h0,htk,hln,hnc,hnm,rfl⟩:=hex
     rw [htk,lbs_map]at hs
     simp only [Option.map_some,Option.some.injEq,Prod.mk.injEq]at hs
     obtain⟨rfl,rfl⟩:=hs
     intro ι w args' hrel hl ha
     obtain rfl:=one_ptr (P:=Tryz.prog) hl ha
     have hoff:=hrel.row hg rfl
     have hoffg:=hrel.row hgg rfl
     subst hln
     have hne:l.length≠0:=by simpa using h0
     have hc1:w.cell? ⟨(ι b).blk,1,none⟩=some (.slice (some ⟨(ι g).blk,0,none⟩) l.length (c+(ι g).slack)):=by
      obtain⟨v',h1,h2⟩:=hrel.cell0 (i:=1) hg rfl
      rw [hoff]at h1
      rw [h1]
      rw [vr_row h2 hne,hoffg]
     obtain⟨arr,t,f,hw,hsz,hcells,hrw⟩:=hrel.blk g _ hgg
     obtain⟨_,hel,s,hs1,hs2,hs3⟩:=hrw rfl
     obtain⟨rfl,rfl⟩:=ElOk.plain hel (show sz Tryz.prog 5=some 1 by kernel_rfl)
     have hlen:l.length≤cs.length:=by
      have:=congrArg List.length htk
      simp at this;omega
     rw [hoff]
     refine(bld_string (ι b).blk (ι g).blk (c+(ι g).slack) l arr w h0 hc1 hw (by omega) (by rw [hs2];simp;omega) hnm (fun j x hx=>?_)).mono ?_
     ·have hj:j<l.length:=(List.getElem?_eq_some_iff.1 hx).1
      have h1:cs[j]?=some (bv x):=by
       have:(cs.take l.length)[j]?=some (bv x):=by rw [htk,List.getElem?_map,hx];rfl
       rwa [List.getElem?_take,if_pos hj]at this
      obtain⟨y,h2,h3⟩:=hcells j _ h1
      rw [hoffg,Nat.zero_add]at h2
      rw [h2,flat_eq h3 rfl];rfl
     ·rintro e w' ⟨rfl,hc⟩
      exact⟨ι,_,rfl,out_kill hrel hgg rfl hc,.flat _ rfl⟩
    ·cases hs
   ·cases hs
  ·cases hs
 ·cases hs
def MaxL (H:LH):Prop:=2<H.ng∧ ∃m,H.base.cell? ⟨2,0,none⟩=some (.int .i64 m)
theorem max_at {P:Program} {H:LH} {ι:Ren} {w:World} (hrel:Rel P H ι w) (h:MaxL H): ∃m,w.cell? ⟨2,0,none⟩=some (.int .i64 m):=by
 obtain⟨h1,m,h2⟩:=h
 refine⟨m,?_⟩
 unfold World.cell? at h2⊢
 rw [pin_block hrel h1]
 exact h2
theorem one_str {P:Program} {H:LH} {ι:Ren} {args':Array Value} {vs:List Value} (hf: ∀x∈vs,flatB x=true) (hl:vs.length=args'.size) (h: ∀(i:Nat) (x y:Value),vs[i]?=some x→args'[i]?=some y→VR H.D ι x y):args'=vs.toArray:=by
 apply Array.ext
 ·simp [hl]
 ·intro i h3 h4
  have hx:vs[i]?=some (vs[i]'(by simpa using h4)):=List.getElem?_eq_getElem _
  have:=flat_eq (h i _ _ hx (Array.getElem?_eq_getElem h3)) (hf _ (List.getElem_mem _))
  rw [this];simp
open Classical in
noncomputable def specSplit:Lg.Spec:=fun args H=>match args with
 | [.string s,.string sep]=>if s.size<4294967281∧1≤sep.size∧MaxL H∧Lib.countB s sep+1≤maxLen∧(Lib.splitB sep 0 (Lib.countB s sep) s).length=Lib.countB s sep+1 then
   some (sl H.n (Lib.countB s sep+1) (Lib.countB s sep+1),H.new ⟨(Lib.splitB sep 0 (Lib.countB s sep) s).map Value.string,9,true⟩)
  else none
 |_=>none
theorem ok_Split:SpecOk Tryz.prog 246 specSplit:=by
 intro args H v H' h
 refine .inl ⟨⟨_,Tryz.func246,rfl,by decide⟩,?_⟩
 unfold specSplit at h
 split at h
 ·rename_i s sep
  split at h
  ·rename_i hc
   obtain⟨h1,h2,h3,h4,h5⟩:=hc
   simp only [Option.some.injEq,Prod.mk.injEq]at h
   obtain⟨rfl,rfl⟩:=h
   exact callOk_row (flat2 rfl rfl) (fun x hx=>by
     obtain⟨l,_,rfl⟩:=List.mem_map.1 hx
     rfl) (by kernel_rfl) (by simpa using h5) h4 (fun ι w hrel=>by
      obtain⟨m,hm⟩:=max_at hrel h3
      exact Tryz.strings_Split s sep m w h1 hm h2)
  ·cases h
 ·cases h
open Classical in
noncomputable def specJoin:Lg.Spec:=fun args H=>match args with
 | [.slice none 0 0,.string sep]=>some (str [],H)
 | [.slice (some ⟨l,o,none⟩) n c,.string sep]=>if h: ∃(b:LB) (xs:List (List UInt8)),H.get l=some b∧n≠0∧n≤c∧n≤140737488355328∧xs.length=n∧(b.cells.drop o).take n=xs.map str∧(Lib.join xs sep.data.toList).length≤140737488355328 then
   some (str (Lib.join (Classical.choose (Classical.choose_spec h)) sep.data.toList),H)else none
 |_=>none
theorem str_inj {a b:List UInt8} (h:str a=str b):a=b:=by
 unfold str at h
 injection h with h
 injection h with h
 injection h
theorem map_str_inj: ∀ {xs ys:List (List UInt8)},xs.map str=ys.map str→xs=ys
 | [],[],_=>rfl
 | [],y::ys,h=>by simp at h
 |x::xs,[],h=>by simp at h
 |x::xs,y::ys,h=>by
  simp only [List.map_cons,List.cons.injEq]at h
  rw [str_inj h.1,map_str_inj h.2]
theorem ok_Join:SpecOk Tryz.prog 298 specJoin:=by
 intro args H v H' hs
 refine .inl ⟨⟨_,Tryz.func298,rfl,by decide⟩,?_⟩
 unfold specJoin at hs
 split at hs
 ·rename_i sep
  simp only [Option.some.injEq,Prod.mk.injEq]at hs
  obtain⟨rfl,rfl⟩:=hs
  intro ι w args' hrel hl ha
  obtain rfl:=one_str (P:=Tryz.prog) (flat2 (by simp) (by simp)) hl ha
  refine(Tryz.strings_Join_none none 0 sep w).mono ?_
  rintro e w' ⟨rfl,rfl⟩
  exact⟨ι,_,rfl,Out.refl hrel,.flat _ rfl⟩
 ·rename_i l o n c sep
  split at hs
  ·rename_i hex
   have hspec:=Classical.choose_spec (Classical.choose_spec hex)
   obtain⟨hb,h0,hnc,hn,hxl,hcells,hlen⟩:=hspec
   generalize Classical.choose (Classical.choose_spec hex)=xs at*
   generalize Classical.choose hex=b at*
   simp only [Option.some.injEq,Prod.mk.injEq]at hs
   obtain⟨rfl,rfl⟩:=hs
   intro ι w args' hrel hl ha
   have h2:args'.size=2:=hl.symm
   have v0:=ha 0 _ _ rfl (Array.getElem?_eq_getElem (show 0<args'.size by omega))
   have v1:=ha 1 _ _ rfl (Array.getElem?_eq_getElem (show 1<args'.size by omega))
   have e0:=vr_row v0 h0
   have e1:=flat_eq v1 rfl
   obtain rfl:args'=#[.slice (some ⟨(ι l).blk,(ι l).off+o,none⟩) n (c+(ι l).slack),.string sep]:=by
    apply Array.ext
    ·simp [h2]
    ·intro i h3 h4
     have:i=0∨i=1:=by omega
     rcases this with rfl|rfl
     ·rw [e0];simp
     ·rw [e1];simp
   have hmap:xs.map (fun x=>(⟨x.toArray⟩:ByteArray).data.toList)=xs:=by simp
   have hj:(List.map (fun x=>x.data.toList) (xs.map fun x=>(⟨x.toArray⟩:ByteArray)))=xs:=by simp [Function.comp_def]
   have:=Tryz.strings_Join (ι l).blk ((ι l).off+o) (c+(ι l).slack) (xs.map fun x=>(⟨x.toArray⟩:ByteArray)) sep w (fun j x hx=>?_) (rel_lt hrel hb) (by simp;omega) (by simp;omega) (by rw [hj];exact hlen)
   ·rw [hj]at this
    rw [List.length_map,hxl]at this
    refine this.mono ?_
    rintro e w' ⟨rfl,hbl⟩
    exact⟨ι,_,rfl,out_change hrel (change_of_below hbl),.flat _ rfl⟩
   ·rw [List.getElem?_map]at hx
    obtain⟨y,hy,rfl⟩:=Option.map_eq_some_iff.1 hx
    have hjn:j<n:=by rw [←hxl];exact(List.getElem?_eq_some_iff.1 hy).1
    have hc:b.cells[o+j]?=some (str y):=by
     have:((b.cells.drop o).take n)[j]?=some (str y):=by rw [hcells,List.getElem?_map,hy];rfl
     rw [List.getElem?_take,if_pos hjn,List.getElem?_drop]at this
     exact this
    obtain⟨v',g1,g2⟩:=hrel.cell0 (i:=o+j) hb hc
    rw [show(ι l).off+o+j=(ι l).off+(o+j) by omega,g1,flat_eq g2 rfl]
    rfl
  ·cases hs
 ·cases hs
def gHasPrefix:List Value→Option Value
 | [.string s,.string p]=>some (.bool (Lib.hasPrefix s.data.toList p.data.toList))
 |_=>none
theorem ok_HasPrefix:SpecOk Tryz.prog 156 (flatSpec gHasPrefix):=specOk_flat ⟨_,Tryz.func156,rfl,by decide⟩ fun args v h=>by
 unfold gHasPrefix at h
 split at h
 ·injection h with h;subst h
  exact⟨flat2 rfl rfl,rfl,fun w=>same_mono (Tryz.strings_HasPrefix _ _ w)⟩
 ·cases h
open Classical in
noncomputable def specIndexA:Lg.Spec:=fun args H=>match args with
 | [.string s,.string ⟨⟨[c]⟩⟩]=>some (.int .i64 (Lib.indexByte s.data.toList c),H)
 | [.string s,.string sub]=>if s.size<4294967281∧MaxL H then some (.int .i64 (Lib.index s.data.toList sub.data.toList),H)else none
 |_=>none
theorem ok_Index:SpecOk Tryz.prog 327 specIndexA:=by
 intro args H v H' hs
 refine .inl ⟨⟨_,Tryz.func327,rfl,by decide⟩,?_⟩
 unfold specIndexA at hs
 split at hs
 ·rename_i s c
  simp only [Option.some.injEq,Prod.mk.injEq]at hs
  obtain⟨rfl,rfl⟩:=hs
  intro ι w args' hrel hl ha
  obtain rfl:=one_str (P:=Tryz.prog) (flat2 (by simp) (by simp)) hl ha
  refine(Tryz.stringslite_Index_one s c w).mono ?_
  rintro e w' ⟨rfl,rfl⟩
  exact⟨ι,_,rfl,Out.refl hrel,.flat _ rfl⟩
 ·rename_i s sub _
  split at hs
  ·rename_i hc
   simp only [Option.some.injEq,Prod.mk.injEq]at hs
   obtain⟨rfl,rfl⟩:=hs
   intro ι w args' hrel hl ha
   obtain rfl:=one_str (P:=Tryz.prog) (flat2 (by simp) (by simp)) hl ha
   obtain⟨m,hm⟩:=max_at hrel hc.2
   refine(Tryz.stringslite_Index s sub m w hc.1 hm).mono ?_
   rintro e w' ⟨rfl,rfl⟩
   exact⟨ι,_,rfl,Out.refl hrel,.flat _ rfl⟩
  ·cases hs
 ·cases hs
def gLower:List Value→Option Value
 | [.string s]=>if s.size≤maxLen then some (.string ⟨(Tg.Lo.lower s.data.toList).toArray⟩)else none
 |_=>none
theorem ok_Lower:SpecOk Tryz.prog 317 (flatSpec gLower):=specOk_flat ⟨_,Tryz.func317,rfl,by decide⟩ fun args v h=>by
 unfold gLower at h
 split at h
 ·split at h
  ·rename_i hs
   injection h with h;subst h
   exact⟨flat1 rfl,rfl,fun w=>lower_w _ w hs⟩
  ·cases h
 ·cases h
def gRepeat:List Value→Option Value
 | [.string s,.int .i64 c]=>if 0≤c∧c≤9223372036854775807∧s.size*c.toNat≤140737488355328 then some (.string ⟨(Lib.repeatL s.data.toList c.toNat).toArray⟩)else none
 |_=>none
theorem ok_Repeat:SpecOk Tryz.prog 249 (flatSpec gRepeat):=specOk_flat ⟨_,Tryz.func249,rfl,by decide⟩ fun args v h=>by
 unfold gRepeat at h
 split at h
 ·rename_i s c
  split at h
  ·rename_i hs
   obtain⟨h0,h1,h2⟩:=hs
   injection h with h;subst h
   obtain⟨k,rfl⟩:=Int.eq_ofNat_of_zero_le h0
   exact⟨flat2 rfl rfl,rfl,fun w=>below_mono (Tryz.strings_Repeat s k w (by omega) h2)⟩
  ·cases h
 ·cases h
def gLz8:List Value→Option Value
 | [.int .u8 x]=>if 0≤x∧x≤255 then some (.int .i64 (8-(Lib.bitLen x.toNat:Int)))else none
 |_=>none
theorem ok_Lz8:SpecOk Tryz.prog 348 (flatSpec gLz8):=specOk_flat ⟨_,Tryz.func348,rfl,by decide⟩ fun args v h=>by
 unfold gLz8 at h
 split at h
 ·split at h
  ·rename_i hs
   injection h with h;subst h
   exact⟨flat1 rfl,rfl,fun w=>same_mono (Tryz.bits_LeadingZeros8 _ w hs.1 hs.2)⟩
  ·cases h
 ·cases h
noncomputable def specsStr:List (FuncId×Lg.Spec):= [
 (249,flatSpec gRepeat),
 (348,flatSpec gLz8),
 (317,flatSpec gLower),
 (246,specSplit),
 (298,specJoin),
 (269,specCopy),
 (236,specBStr),
 (172,flatSpec gIndexByte),
 (156,flatSpec gHasPrefix),
 (327,specIndexA),
 ]
theorem str_ok: ∀p∈specsStr,SpecOk Tryz.prog p.1 p.2:=by
 intro p hp
 unfold specsStr at hp
 rcases List.mem_cons.1 hp with rfl|hp
 ·exact ok_Repeat
 rcases List.mem_cons.1 hp with rfl|hp
 ·exact ok_Lz8
 rcases List.mem_cons.1 hp with rfl|hp
 ·exact ok_Lower
 rcases List.mem_cons.1 hp with rfl|hp
 ·exact ok_Split
 rcases List.mem_cons.1 hp with rfl|hp
 ·exact ok_Join
 rcases List.mem_cons.1 hp with rfl|hp
 ·exact ok_Copy
 rcases List.mem_cons.1 hp with rfl|hp
 ·exact ok_BStr
 rcases List.mem_cons.1 hp with rfl|hp
 ·exact ok_IndexByte
 rcases List.mem_cons.1 hp with rfl|hp
 ·exact ok_HasPrefix
 rcases List.mem_cons.1 hp with rfl|hp
 ·exact ok_Index
 cases hp
end Go.Proofs.YtcgiaiimbnoknaaGreatDoor
