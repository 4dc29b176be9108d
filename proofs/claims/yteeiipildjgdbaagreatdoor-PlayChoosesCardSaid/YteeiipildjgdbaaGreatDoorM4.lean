/-
  Texts joined, part 4: LgEvB, LgEvC, ChT, LgEnd, LgRow, HdPlain, ScPlain, ScRead, Facts, LgApp, LgMore, LgNum, StBase, PgS, PgT, LgCut, StRune, StAny, StBld, StRows, StFld, StLib, StEnv, LgObj, StBldW, UrCode, UrCodeB, UrCodeC.
-/
import Derived.Test.YteeiipildjgdbaaGreatDoorM3
import Derived.Test.YteeiipildjgdbaaGreatDoorM1
import Derived.Lib.ItoaNum
import Derived.Test.YteeiipildjgdbaaGreatDoorRows
import Derived.Laws.Runes
set_option linter.unusedSimpArgs false
set_option linter.unusedVariables false
namespace Go.Lg
open Go.Tg Go.RowKit
abbrev ptr (l off:Nat):Value:=.pointer (some ⟨l,off,none⟩)
abbrev sl (l n c:Nat):Value:=.slice (some ⟨l,0,none⟩) n c
section
variable {P:Program} {E:Ext} {fn:Func} {k:List Item} {fr:Fr} {H H':LH} {Q:Value×LH→Prop} {all:Array Oper} {os:List Oper} {d:Nat} {op:Op} {T:Callee} {b c:LB} {l m:Nat}
@[simp] theorem enter_get {args:List Value} {t:Nat} :enter args t=args.getD t undef:=rfl
@[simp] theorem get_new:(H.new b).get H.n=some b:=by simp [LH.new]
theorem get_new':(H.new b).get l=if l=H.n then some b else H.get l:=rfl
@[simp] theorem get_new_ne (h:l≠H.n):(H.new b).get l=H.get l:=by simp [LH.new,h]
@[simp] theorem get_set:(H.set l b).get l=some b:=by simp [LH.set]
@[simp] theorem get_set_ne (h:m≠l):(H.set l b).get m=H.get m:=by simp [LH.set,h]
@[simp] theorem get_kill:(H.kill l).get l=none:=by simp [LH.kill]
@[simp] theorem get_kill_ne (h:m≠l):(H.kill l).get m=H.get m:=by simp [LH.kill,h]
@[simp] theorem n_new:(H.new b).n=H.n+1:=by simp only [LH.new]
@[simp] theorem n_set:(H.set l b).n=H.n:=by simp only [LH.set]
@[simp] theorem n_kill:(H.kill l).n=H.n:=by simp only [LH.kill]
@[simp] theorem n_ro:H.ro.n=H.n:=by simp only [LH.ro]
@[simp] theorem base_new:(H.new b).base=H.base:=by simp only [LH.new]
@[simp] theorem base_set:(H.set l b).base=H.base:=by simp only [LH.set]
@[simp] theorem base_kill:(H.kill l).base=H.base:=by simp only [LH.kill]
@[simp] theorem base_ro:H.ro.base=H.base:=by simp only [LH.ro]
@[simp] theorem ng_new:(H.new b).ng=H.ng:=by simp only [LH.new]
@[simp] theorem ng_set:(H.set l b).ng=H.ng:=by simp only [LH.set]
@[simp] theorem ng_kill:(H.kill l).ng=H.ng:=by simp only [LH.kill]
@[simp] theorem ng_ro:H.ro.ng=H.ng:=by simp only [LH.ro]
@[simp] theorem get_ro:H.ro.get l=(H.get l).map fun b=> { b with rw:=false } :=by simp only [LH.ro]
@[simp] theorem set_set:(H.set l b).set l c=H.set l c:=by
 unfold LH.set;simp only [LH.mk.injEq,true_and,and_true];funext k;split<;>simp_all
@[simp] theorem new_set:(H.new b).set H.n c=H.new c:=by
 unfold LH.new LH.set;simp only [LH.mk.injEq,true_and,and_true];funext k;split<;>simp_all
@[simp] theorem le_self:H.le H:=le_refl
theorem LH.le.trans {A B C:LH} (h:A.le B) (g:B.le C):A.le C:=⟨Nat.le_trans h.1 g.1,fun l hl=>(g.2 l (Nat.lt_of_lt_of_le hl h.1)).trans (h.2 l hl)⟩
theorem LH.le.new (h:H.le H'):H.le (H'.new b):=⟨Nat.le_succ_of_le h.1,fun l hl=>by
 have:=h.1
 rw [get_new_ne (by omega)];exact h.2 l hl⟩
theorem LH.le.set (h:H.le H') (hl:H.n≤l):H.le (H'.set l b):=⟨h.1,fun k hk=>by rw [get_set_ne (by omega)];exact h.2 k hk⟩
theorem LH.le.kill (h:H.le H') (hl:H.n≤l):H.le (H'.kill l):=⟨h.1,fun k hk=>by rw [get_kill_ne (by omega)];exact h.2 k hk⟩
def fldi (P:Program) (s:TypeId) (f:Nat):Option (Nat×Nat×Bool):=
 match P.underlying s with
 |some (.struct fs)=>match fs[f]? with
  |some fd=>match sz P fd.type,aggB P fd.type with
   |some n,some g=>some (fd.offset,n,g)
   |_,_=>none
  |none=>none
 |_=>none
def lfaddr (i:Option (Nat×Nat×Bool)) (x:Value) (H:LH):Option (Value×LH):=
 match i,x with
 |some (o,n,_),.pointer (some ⟨l,off,none⟩)=>if n=0 then none else some (ptr l (off+o),H)
 |_,_=>none
theorem lopx_fieldAddr {s:TypeId} {x:Operand} {f:Nat} {i:Nat×Nat×Bool} (h:fldi P s f=some i):lopx P T (.fieldAddr s x f) fr H=lfaddr (some i) (ev fr x) H:=by
 unfold fldi at h
 show(lpure P (.fieldAddr s x f) fr).map _=_
 split at h
 ·rename_i fs hu
  split at h
  ·rename_i fd hf
   split at h
   ·rename_i n g hs ha
    injection h with h
    subst h
    unfold lfaddr
    simp only [lpure,hu]
    split
    ·rename_i e1 e2
     injection e2 with e2
     injection e2 with e2
     subst e2
     simp only [hf,hs,e1]
     split<;>rfl
    ·rename_i h1
     split
     ·rename_i e1 e2
      exact absurd rfl (h1 _ _ _ e2)
     ·rfl
   ·cases h
  ·cases h
 ·cases h
attribute [simp] lopx_fieldAddr
@[simp] theorem lfaddr_ptr {o n off:Nat} {g:Bool} (h:n≠0):lfaddr (some (o,n,g)) (ptr l off) H=some (ptr l (off+o),H):=by simp [lfaddr,h]
def lldb (a:Option Bool) (s:Option Nat) (cs:List Value) (off:Nat):Option Value:=
 match a,s with
 |some true,some s=>if off+s≤cs.length then some (.agg ((cs.drop off).take s).toArray)else none
 |some false,_=>cs[off]?
 |_,_=>none
def lld (P:Program) (t:TypeId) (x:Value) (H:LH):Option Value:=match x with
 |.pointer (some ⟨l,off,none⟩)=>match H.get l with
  |some b=>lldb (aggB P t) (sz P t) b.cells off
  |none=>none
 |_=>none
theorem lload_eq {t:TypeId} {off:Nat} :lload P t l off H=lld P t (ptr l off) H:=by
 cases h:H.get l with
 |none=>simp only [lload,lld,h]
 |some b=>
  simp only [lload,lld,h,lldb]
  cases aggB P t with
  |none=>rfl
  |some g=>cases g<;>cases sz P t<;>simp [lcells]
@[simp ↓] theorem lopx_load {t:TypeId} {x:Operand} :lopx P T (.load t x) fr H=withH (lld P t (ev fr x) H) H:=by
 show(match ev fr x with|.pointer (some ⟨l,off,none⟩)=>(lload P t l off H).map fun v=>(v,H)|_=>none)=_
 split
 ·rename_i e;rw [e,lload_eq];rfl
 ·rename_i h
  unfold lld
  split
  ·rename_i e;exact absurd e (h _ _)
  ·rfl
theorem lld_ptr {t:TypeId} {off:Nat} (h:H.get l=some b):lld P t (ptr l off) H=lldb (aggB P t) (sz P t) b.cells off:=by simp [lld,h]
attribute [simp] lld_ptr
@[simp] theorem lldb_cell {s:Option Nat} {cs:List Value} {off:Nat} :lldb (some false) s cs off=cs[off]?:=rfl
@[simp] theorem lldb_agg {s:Nat} {cs:List Value} {off:Nat} (h:off+s≤cs.length):lldb (some true) (some s) cs off=some (.agg ((cs.drop off).take s).toArray):=by simp [lldb,h]
def lst (P:Program) (t:TypeId) (x v:Value) (H:LH):Option (Value×LH):=match x with
 |.pointer (some ⟨l,off,none⟩)=>(lstore P t l off v H).map fun H'=>(undef,H')
 |_=>none
@[simp ↓] theorem lopx_store {t:TypeId} {x y:Operand} :lopx P T (.store t x y) fr H=lst P t (ev fr x) (ev fr y) H:=rfl
theorem cells_one {v:Value} (h:cellB v=true):v.cells=#[v]:=by cases v<;>first|rfl|(simp [cellB]at h)
theorem lst_cell {t:TypeId} {off:Nat} {v:Value} (h:H.get l=some b) (hrw:b.rw=true) (hs:sz P t=some 1) (hv:cellB v=true) (ho:off<b.cells.length):
  lst P t (ptr l off) v H=some (undef,H.set l ⟨b.cells.set off v,b.elem,true⟩):=by
 have e1:splice b.cells off [v]=b.cells.set off v:=by
  unfold splice
  rw [List.set_eq_take_append_cons_drop,if_pos ho];simp
 simp only [lst,lstore,h,hs,cells_one hv]
 simp [hv,e1,hrw]
 omega
attribute [simp] lst_cell
theorem lst_agg {t:TypeId} {off n:Nat} {vs:List Value} (h:H.get l=some b) (hrw:b.rw=true) (hs:sz P t=some n) (hn:vs.length=n) (hv:vs.all cellB=true) (ho:off+n≤b.cells.length):
  lst P t (ptr l off) (.agg ⟨vs⟩) H=some (undef,H.set l ⟨splice b.cells off vs,b.elem,true⟩):=by
 subst hn
 have hv': ∀x∈vs,cellB x=true:=by simpa using hv
 simp only [lst,lstore,h,hs,Value.cells]
 simp [ho,hrw]
 exact hv'
attribute [simp] lst_agg
@[simp] theorem cell_int {kd:IntKind} {n:Int} :cellB (.int kd n)=true:=by simp only [cellB]
@[simp] theorem cell_bool {x:Bool} :cellB (.bool x)=true:=by simp only [cellB,str]
@[simp] theorem cell_str {x:List UInt8} :cellB (str x)=true:=by simp only [cellB,str]
@[simp] theorem cell_ptr {x:Option Addr} :cellB (.pointer x)=true:=by simp only [cellB,str]
@[simp] theorem cell_slice {x:Option Addr} {n c:Nat} :cellB (.slice x n c)=true:=by simp only [cellB,str]
@[simp] theorem cell_func {f:Fn} {x y:Array Value} :cellB (.func f x y)=true:=by simp only [cellB,str]
def lres (P:Program) (rs:List ResultVar) (fr:Fr) (H:LH):Option Value:=
 match rs.mapM (lresult P fr H)with
 |some [v]=>some v
 |some vs=>some (.tuple vs.toArray)
 |none=>none
@[simp] theorem lresults_eq:lresults P fn fr H=lres P fn.results.toList fr H:=rfl
def lres1 (P:Program) (r:ResultVar) (fr:Fr) (H:LH):Option Value:=match r with
 |.tmp t=>some (fr t)
 |.cell a t=>lld P t (fr a) H
theorem lresult_eq {x:ResultVar} :lresult P fr H x=lres1 P x fr H:=by
 cases x with
 |tmp t=>rfl
 |cell a t=>
  simp only [lresult,lres1]
  split
  ·rename_i e;rw [e,lload_eq]
  ·rename_i h
   unfold lld
   split
   ·rename_i e;exact absurd e (h _ _)
   ·rfl
@[simp] theorem lres1_tmp {t:Tmp} :lres1 P (.tmp t) fr H=some (fr t):=rfl
@[simp] theorem lres1_cell {a:Tmp} {t:TypeId} :lres1 P (.cell a t) fr H=lld P t (fr a) H:=rfl
@[simp] theorem lres_nil:lres P [] fr H=some (.tuple #[]):=rfl
@[simp] theorem lres_one {x:ResultVar} :lres P [x] fr H=lres1 P x fr H:=by
 simp only [lres,List.mapM_cons,List.mapM_nil,lresult_eq]
 cases lres1 P x fr H<;>rfl
@[simp] theorem lres_two {x y:ResultVar} :lres P [x,y] fr H=(lres1 P x fr H).bind fun a=>(lres1 P y fr H).bind fun b=>some (.tuple #[a,b]):=by
 simp only [lres,List.mapM_cons,List.mapM_nil,lresult_eq]
 cases lres1 P x fr H<;>cases lres1 P y fr H<;>rfl
@[simp] theorem lres_three {x y z:ResultVar} :lres P [x,y,z] fr H=(lres1 P x fr H).bind fun a=>(lres1 P y fr H).bind fun b=>(lres1 P z fr H).bind fun c=>some (.tuple #[a,b,c]):=by
 simp only [lres,List.mapM_cons,List.mapM_nil,lresult_eq]
 cases lres1 P x fr H<;>cases lres1 P y fr H<;>cases lres1 P z fr H<;>rfl
@[simp] theorem lres_four {x y z u:ResultVar} :lres P [x,y,z,u] fr H=(lres1 P x fr H).bind fun a=>(lres1 P y fr H).bind fun b=>(lres1 P z fr H).bind fun c=>(lres1 P u fr H).bind fun d=>some (.tuple #[a,b,c,d]):=by
 simp only [lres,List.mapM_cons,List.mapM_nil,lresult_eq]
 cases lres1 P x fr H<;>cases lres1 P y fr H<;>cases lres1 P z fr H<;>cases lres1 P u fr H<;>rfl
def lbox (s:Option Nat) (e:TypeId) (v:Value) (H:LH):Option (Value×LH):=if knownB v&&s==some v.cells.size then some (ptr H.n 0,H.new ⟨v.cells.toList,e,true⟩)else none
@[simp ↓] theorem lopx_box {e:TypeId} {x:Operand} :lopx P T (.box e x) fr H=lbox (sz P e) e (ev fr x) H:=rfl
@[simp] theorem lbox_agg {e:TypeId} {n:Nat} {vs:List Value} (h:vs.length=n):lbox (some n) e (.agg ⟨vs⟩) H=some (ptr H.n 0,H.new ⟨vs,e,true⟩):=by simp [lbox,knownB,Value.cells,h]
@[simp] theorem lbox_cell {e:TypeId} {v:Value} (h:cellB v=true):lbox (some 1) e v H=some (ptr H.n 0,H.new ⟨[v],e,true⟩):=by
 have:knownB v=true:=by cases v<;>first|rfl|(simp [cellB]at h)
 simp [lbox,this,cells_one h]
def lalloc (s:Option Nat) (z:Option Value) (e:TypeId) (H:LH):Option (Value×LH):=match z with
 |some z=>if flatB z&&s==some z.cells.size then some (ptr H.n 0,H.new ⟨z.cells.toList,e,true⟩)else none
 |none=>none
@[simp ↓] theorem lopx_alloc {e:TypeId} :lopx P T (.alloc e) fr H=lalloc (sz P e) (zr P e) e H:=rfl
@[simp] theorem lalloc_agg {e:TypeId} {n:Nat} {vs:List Value} (h:vs.length=n) (hf:vs.all atomB=true):lalloc (some n) (some (.agg ⟨vs⟩)) e H=some (ptr H.n 0,H.new ⟨vs,e,true⟩):=by
 have:flatB (.agg ⟨vs⟩)=true:=hf
 simp [lalloc,this,Value.cells,h]
@[simp] theorem lalloc_cell {e:TypeId} {v:Value} (h:cellB v=true) (hf:flatB v=true):lalloc (some 1) (some v) e H=some (ptr H.n 0,H.new ⟨[v],e,true⟩):=by simp [lalloc,hf,cells_one h]
@[simp] theorem zr_str:Value.string ⟨#[]⟩=str []:=rfl
@[simp ↓] theorem lopx_nilCheck {x:Operand} {ad:Addr} (h:ev fr x=.pointer (some ad)):lopx P T (.nilCheck x) fr H=some (.pointer (some ad),H):=by
 show(match ev fr x with|.pointer (some a)=>_|.func (.func g) f c=>_|_=>none:Option Value).map _=_
 rw [h];rfl
def sub (x:List UInt8) (i j:Int):List UInt8:=(x.take j.toNat).drop i.toNat
end
section
variable {P:Program} {E:Ext} {fn:Func} {k:List Item} {fr:Fr} {H H':LH} {Q:Value×LH→Prop} {all:Array Oper} {os:List Oper} {d:Nat} {op:Op} {T:Callee} {b c:LB} {l m:Nat} {t e:TypeId} {kd kd':IntKind} {x y:List UInt8} {i j:Int}
attribute [simp] lidx_str lbuiltin_len_str lbuiltin_len_slice
def evo (fr:Fr) (o:Option Operand):Option Value:=o.map (ev fr)
@[simp ↓] theorem evo_none:evo fr none=none:=rfl
@[simp ↓] theorem evo_some {x:Operand} :evo fr (some x)=some (ev fr x):=rfl
def lbd (d:Nat):Option Value→Option Nat
 |none=>some d
 |some (.int _ i)=>if 0≤i then some i.toNat else none
 |_=>none
theorem lbound_eq {d:Nat} {o:Option Operand} :lbound fr d o=lbd d (evo fr o):=by
 cases o with
 |none=>rfl
 |some x=>simp only [lbound,evo,Option.map_some];cases ev fr x<;>rfl
def lpart (P:Program) (t:TypeId) (x:Value) (lo hi:Option Value):Option Value:=
 match P.underlying t,x with
 |some .string,.string s=>
  match lbd 0 lo,lbd s.size hi with
  |some a,some b=>if a≤b∧b≤s.size then some (.string (s.extract a b))else none
  |_,_=>none
 |some (.slice e),.slice a n c=>
  match lbd 0 lo,lbd n hi,sz P e with
  |some i,some j,some s=>if i≤j∧j≤n then
    match a with
    |some ⟨l,o,none⟩=>some (.slice (some ⟨l,o+i*s,none⟩) (j-i) (c-i))
    |none=>some (.slice none 0 0)
    |_=>none
   else none
  |_,_,_=>none
 |_,_=>none
@[simp ↓] theorem lopx_slice {x:Operand} {lo hi:Option Operand} :lopx P T (.slice t x lo hi none) fr H=withH (lpart P t (ev fr x) (evo fr lo) (evo fr hi)) H:=by
 show(lslice P t (ev fr x) fr lo hi).map _=_
 unfold lslice lpart withH
 simp only [lbound_eq]
 rfl
theorem ext_str {a b:Nat} :(⟨x.toArray⟩:ByteArray).extract a b=⟨((x.take b).drop a).toArray⟩:=by
 apply ByteArray.ext
 rw [ByteArray.data_extract,List.drop_take]
 simp
theorem lpart_str0 {u:Option TypeDesc} (hu:P.underlying t=some .string) {a b:Option Value} {p q:Nat} (ha:lbd 0 a=some p) (hb:lbd x.length b=some q) (h:p≤q∧q≤x.length):lpart P t (str x) a b=some (str ((x.take q).drop p)):=by
 unfold lpart str
 simp only [hu,ha,ba_size,hb,if_pos h,ext_str]
theorem lbd_int {d:Nat} (h:0≤i):lbd d (some (.int kd i))=some i.toNat:=by simp only [lbd,if_pos h]
@[simp] theorem lpart_str_nn (hu:P.underlying t=some .string):lpart P t (str x) none none=some (str x):=by
 rw [lpart_str0 (u:=none) hu rfl rfl ⟨Nat.zero_le _,Nat.le_refl _⟩];simp
@[simp] theorem lpart_str_ns (hu:P.underlying t=some .string) (h0:0≤j) (h1:j≤x.length):lpart P t (str x) none (some (.int kd j))=some (str (x.take j.toNat)):=by
 rw [lpart_str0 (u:=none) hu rfl (lbd_int h0) ⟨Nat.zero_le _,by omega⟩];simp
@[simp] theorem lpart_str_sn (hu:P.underlying t=some .string) (h0:0≤i) (h1:i≤x.length):lpart P t (str x) (some (.int kd i)) none=some (str (x.drop i.toNat)):=by
 rw [lpart_str0 (u:=none) hu (lbd_int h0) rfl ⟨by omega,Nat.le_refl _⟩];simp
@[simp] theorem lpart_str_ss (hu:P.underlying t=some .string) (h0:0≤i) (h1:i≤j) (h2:j≤x.length):lpart P t (str x) (some (.int kd i)) (some (.int kd' j))=some (str (sub x i j)):=
 lpart_str0 (u:=none) hu (lbd_int h0) (lbd_int (by omega)) ⟨by omega,by omega⟩
theorem lpart_row0 {s o n c:Nat} (hu:P.underlying t=some (.slice e)) (hs:sz P e=some s) {a b:Option Value} {p q:Nat} (ha:lbd 0 a=some p) (hb:lbd n b=some q) (h:p≤q∧q≤n):lpart P t (.slice (some ⟨l,o,none⟩) n c) a b=some (.slice (some ⟨l,o+p*s,none⟩) (q-p) (c-p)):=by
 unfold lpart
 simp only [hu,ha,hs,hb,if_pos h]
@[simp] theorem lpart_row_nn {s o n c:Nat} (hu:P.underlying t=some (.slice e)) (hs:sz P e=some s):lpart P t (.slice (some ⟨l,o,none⟩) n c) none none=some (.slice (some ⟨l,o,none⟩) n c):=by
 rw [lpart_row0 hu hs rfl rfl ⟨Nat.zero_le _,Nat.le_refl _⟩];simp
@[simp] theorem lpart_row_ns {s o n c:Nat} (hu:P.underlying t=some (.slice e)) (hs:sz P e=some s) (h0:0≤j) (h1:j≤n):lpart P t (.slice (some ⟨l,o,none⟩) n c) none (some (.int kd j))=some (.slice (some ⟨l,o,none⟩) j.toNat c):=by
 rw [lpart_row0 hu hs rfl (lbd_int h0) ⟨Nat.zero_le _,by omega⟩];simp
@[simp] theorem lpart_row_sn {s o n c:Nat} (hu:P.underlying t=some (.slice e)) (hs:sz P e=some s) (h0:0≤i) (h1:i≤n):lpart P t (.slice (some ⟨l,o,none⟩) n c) (some (.int kd i)) none=some (.slice (some ⟨l,o+i.toNat*s,none⟩) (n-i.toNat) (c-i.toNat)):=by
 rw [lpart_row0 hu hs (lbd_int h0) rfl ⟨by omega,Nat.le_refl _⟩]
@[simp] theorem lpart_row_ss {s o n c:Nat} (hu:P.underlying t=some (.slice e)) (hs:sz P e=some s) (h0:0≤i) (h1:i≤j) (h2:j≤n):lpart P t (.slice (some ⟨l,o,none⟩) n c) (some (.int kd i)) (some (.int kd' j))=some (.slice (some ⟨l,o+i.toNat*s,none⟩) (j.toNat-i.toNat) (c-i.toNat)):=
 lpart_row0 hu hs (lbd_int h0) (lbd_int (by omega)) ⟨by omega,by omega⟩
@[simp] theorem lpart_nil {s:Nat} (hu:P.underlying t=some (.slice e)) (hs:sz P e=some s):lpart P t (.slice none 0 0) none none=some (.slice none 0 0):=by
 unfold lpart;simp [hu,lbd,hs]
def lixa (P:Program) (t:TypeId) (x i:Value) (H:LH):Option (Value×LH):=withH (match x,i,P.underlying t with
 |.slice (some ⟨l,off,none⟩) n _,.int _ k,some (.slice e)=>match sz P e with
  |some s=>if 0≤k∧k<n then some (.pointer (some ⟨l,off+k.toNat*s,none⟩))else none
  |none=>none
 |_,_,_=>none) H
@[simp ↓] theorem lopx_indexAddr {x i:Operand} :lopx P T (.indexAddr t x i) fr H=lixa P t (ev fr x) (ev fr i) H:=rfl
@[simp] theorem lixa_row {s off n c:Nat} (hu:P.underlying t=some (.slice e)) (hs:sz P e=some s) (h0:0≤i) (h1:i<n):lixa P t (.slice (some ⟨l,off,none⟩) n c) (.int kd i) H=some (ptr l (off+i.toNat*s),H):=by
 simp only [lixa,hu,hs,if_pos (And.intro h0 h1),withH_some]
def lesrc (P:Program) (t:TypeId) (y:Value) (H:LH):Option (Nat×List Value):=
 match P.underlying t with
 |some (.slice e)=>match lesz P e with
  |some s=>lsrc s y H
  |none=>none
 |_=>none
@[simp] theorem lesrc_nil {s:Nat} (hu:P.underlying t=some (.slice e)) (hs:lesz P e=some s):lesrc P t (.slice none 0 0) H=some (0,[]):=by
 simp only [lesrc,hu,hs,lsrc]
@[simp] theorem lesrc_row {s o n c:Nat} (hu:P.underlying t=some (.slice e)) (hs:lesz P e=some s) (hb:H.get l=some b) (hle:o+n*s≤b.cells.length):lesrc P t (.slice (some ⟨l,o,none⟩) n c) H=some (n,(b.cells.drop o).take (n*s)):=by
 simp only [lesrc,hu,hs,lsrc,hb,lcells,if_pos hle,Option.map_some]
def lapp (P:Program) (t:TypeId) (x:Value) (src:Option (Nat×List Value)) (H:LH):Option (Value×LH):=
 match P.underlying t,src with
 |some (.slice e),some (m,new)=>
  match lesz P e with
  |some s=>
    if new.all cellB then
     match x with
     |.slice none 0 0=>if m=0 then some (x,H)else if m≤maxElems then some (.slice (some ⟨H.n,0,none⟩) m m,H.new ⟨new,e,true⟩)else none
     |.slice (some ⟨l,o,none⟩) n c=>
      match H.get l with
      |some b=>
       if b.rw=true∧b.elem=e∧o=0∧b.cells.length=c*s∧n≤c then
        if m=0 then some (x,H)
        else if n+m≤c then some (.slice (some ⟨l,0,none⟩) (n+m) c,H.set l { b with cells:=splice b.cells (n*s) new })
        else if n=c∧n+m≤maxElems then some (.slice (some ⟨H.n,0,none⟩) (n+m) (n+m),(H.kill l).new ⟨b.cells++new,e,true⟩)
        else none
       else lappM P e s l o n c b m new H
      |none=>none
     |_=>none
    else none
  |none=>none
 |_,_=>none
theorem lappend_eq {x y:Value} :lappend P t t x y H=lapp P t x (lesrc P t y H) H:=by
 unfold lappend lapp lesrc
 cases P.underlying t with
 |none=>rfl
 |some u=>
  cases u<;>try rfl
  rename_i e
  dsimp only
  cases hz:lesz P e with
  |none=>rfl
  |some s=>
   dsimp only
   rw [if_pos rfl]
   cases lsrc s y H with
   |none=>rfl
   |some q=>
    obtain⟨m,new⟩:=q
    simp only [hz]
    rfl
@[simp] theorem lbuiltin_append {x y:Value} :lbuiltin P .append [t,t] [x,y] H=lapp P t x (lesrc P t y H) H:=by
 rw [←lappend_eq];simp only [lbuiltin]
theorem lbuiltin_appends {u:TypeId} {x:Value} {z:List UInt8} (hne:t≠u) (ht:P.underlying t=some (.slice e)) (hu:P.underlying u=some .string) (hs:lesz P e=some 1) (hz:zr P e=some (.int .u8 0)) (hb:byts P e=some 1):
  lbuiltin P .append [t,u] [x,str z] H=lapp P t x (some (z.length,z.map fun b=>Value.int .u8 b.toNat)) H:=by
 have e1:lsrcS P u e 1 (str z)=some (z.length,z.map fun b=>Value.int .u8 b.toNat):=by
  unfold lsrcS str
  simp only [hu,hz,hb,and_self,if_true]
  rw [ba_size]
  rfl
 show lappend P t u x (str z) H=_
 unfold lappend lapp
 simp only [ht,hs,if_neg hne,e1]
 rfl
variable {new:List Value} {s n cp:Nat}
@[simp] theorem lapp_nil (hu:P.underlying t=some (.slice e)) (hs:lesz P e=some s) (hc:new.all cellB=true) (hm:m≠0) (hM:m≤maxElems):lapp P t (.slice none 0 0) (some (m,new)) H=some (sl H.n m m,H.new ⟨new,e,true⟩):=by
 simp only [lapp,hu,hs,hc,hm,hM,if_true,if_false]
@[simp] theorem lapp_nil0 (hu:P.underlying t=some (.slice e)) (hs:lesz P e=some s):lapp P t (.slice none 0 0) (some (0,[])) H=some (.slice none 0 0,H):=by
 simp [lapp,hu,hs]
theorem lapp_grow (hu:P.underlying t=some (.slice e)) (hs:lesz P e=some s) (hc:new.all cellB=true) (hm:m≠0) (hM:n+m≤maxElems) (hb:H.get l=some b) (hrw:b.rw=true) (he:b.elem=e) (hl:b.cells.length=n*s):lapp P t (sl l n n) (some (m,new)) H=some (sl H.n (n+m) (n+m),(H.kill l).new ⟨b.cells++new,e,true⟩):=by
 have h1: ¬n+m≤n:=by omega
 simp only [lapp,hu,hs,hc,hb,if_true]
 rw [if_pos ⟨hrw,he,trivial,hl,Nat.le_refl _⟩,if_neg hm,if_neg h1,if_pos ⟨trivial,hM⟩]
theorem lapp_in (hu:P.underlying t=some (.slice e)) (hs:lesz P e=some s) (hc:new.all cellB=true) (hm:m≠0) (hb:H.get l=some b) (hrw:b.rw=true) (he:b.elem=e) (hl:b.cells.length=cp*s) (hn:n+m≤cp):lapp P t (sl l n cp) (some (m,new)) H=some (sl l (n+m) cp,H.set l { b with cells:=splice b.cells (n*s) new }):=by
 simp only [lapp,hu,hs,hc,hb,if_true]
 rw [if_pos ⟨hrw,he,trivial,hl,by omega⟩,if_neg hm,if_pos hn]
def denseB:List (Nat×Value)→Nat→Bool
 | [],_=>true
 |(i,v)::ps,k=>i==k&&cellB v&&denseB ps (k+1)
@[simp] theorem denseB_nil {k:Nat} :denseB [] k=true:=rfl
@[simp] theorem denseB_cons {k i:Nat} {v:Value} {ps:List (Nat×Value)} :denseB ((i,v)::ps) k=(i==k&&cellB v&&denseB ps (k+1)):=rfl
theorem fill_dense {pl:Nat→Option (Nat×Nat)} : ∀(ps:List (Nat×Value)) (pre post:List Value),(∀j,j<pre.length+ps.length→pl j=some (j,1))→denseB ps pre.length=true→post.length=ps.length→Instr.fill pl (pre++post).toArray ps=some (pre++ps.map Prod.snd).toArray
 | [],pre,post,_,_,h=>by
  have:post= []:=List.length_eq_zero_iff.1 h
  subst this;simp [Instr.fill]
 |(i,v)::ps,pre,post,hp,hd,h=>by
  cases post with
  |nil=>simp at h
  |cons z post=>
  simp only [denseB,Bool.and_eq_true,beq_iff_eq]at hd
  obtain⟨⟨rfl,hv⟩,hd⟩:=hd
  have e1:=cells_one hv
  unfold Instr.fill
  rw [hp _ (by simp)]
  simp only [e1]
  rw [if_neg (by simp)]
  have e2:((#[v]:Array Value).zipIdx.foldl (fun cs (c,j)=>cs.setIfInBounds (pre.length+j) c) (pre++z::post).toArray)=((pre++ [v])++post).toArray:=by
   simp
  rw [e2,fill_dense ps (pre++ [v]) post (fun j hj=>hp j (by simp at hj⊢;omega)) (by simpa using hd) (by simpa using h)]
  simp
theorem dense_known: ∀(ps:List (Nat×Value)) (k:Nat),denseB ps k=true→(ps.all fun p=>knownB p.2)=true
 | [],_,_=>rfl
 |(i,v)::ps,k,h=>by
  simp only [denseB,Bool.and_eq_true,beq_iff_eq]at h
  have:knownB v=true:=by cases v<;>first|rfl|(have:=h.1.2;simp [cellB]at this)
  simp only [List.all_cons,this,dense_known ps _ h.2,Bool.and_self]
@[simp ↓] theorem lopx_buildSlice {ps:List (Nat×Operand)} :lopx P T (.buildSlice t n ⟨ps⟩) fr H=lbuildSlice P t n (ps.map fun p=>(p.1,ev fr p.2)) H:=rfl
theorem lbs_dense {z:Value} {ps:List (Nat×Value)} (hu:P.underlying t=some (.slice e)) (hs:sz P e=some 1) (hz:zr P e=some z) (hf:flatB z=true) (hz1:cellB z=true) (hn:n=ps.length) (hle:n≤65536) (hd:denseB ps 0=true):lbuildSlice P t n ps H=some (sl H.n n n,H.new ⟨ps.map Prod.snd,e,true⟩):=by
 subst hn
 have hk: ∀p∈ps,knownB p.2=true:=by simpa using dense_known ps 0 hd
 unfold lbuildSlice
 simp only [hu,hs,hz]
 rw [if_pos (by
  simp only [Bool.and_eq_true,decide_eq_true_eq,beq_iff_eq,List.all_eq_true]
  exact⟨⟨⟨⟨hf,by omega⟩,by omega⟩,by rw [cells_one hz1];rfl⟩,hk⟩)]
 have e0:((Array.range (ps.length*1)).map fun j=>z.cells[j%z.cells.size]!)=(([]:List Value)++List.replicate ps.length z).toArray:=by
  rw [cells_one hz1]
  apply Array.ext
  ·simp
  ·intro i h1 h2
   simp [Nat.mod_one]
 rw [e0,fill_dense ps [] (List.replicate ps.length z) (fun j _=>by simp) hd (by simp)]
 simp
attribute [simp] lbs_dense
@[simp] theorem lconv_ii {a c:TypeId} {k1 k2:IntKind} {n:Int} (h1:P.underlying a=some (.int k1)) (h2:P.underlying c=some (.int k2)):lconv P a c (.int k1 n) H=some (.int k2 (k2.wrap n)):=by
 have e:pureVal P (convert a c (.int k1 n))=some (.int k2 (k2.wrap n)):=by
  simp only [convert,pureVal_bind,pureVal_und,h1,h2,Option.bind_some]
  rfl
 unfold lconv
 simp only [flat_int,if_true,pureFlat,e]
def lbs:List Value→Option (List UInt8)
 | []=>some []
 |v::l=>(lbyte v).bind fun b=>(lbs l).map (b:: ·)
theorem lbs_eq: ∀l:List Value,l.mapM lbyte=lbs l
 | []=>rfl
 |v::l=>by
  rw [List.mapM_cons,lbs_eq l,lbs]
  cases lbyte v<;>cases lbs l<;>rfl
def bv (x:UInt8):Value:=.int .u8 x.toNat
@[simp] theorem lbyte_bv {x:UInt8} :lbyte (.int .u8 x.toNat)=some x:=by simp [lbyte]
@[simp] theorem lbs_nil:lbs []=some []:=rfl
@[simp] theorem lbs_cons {v:Value} {l:List Value} :lbs (v::l)=(lbyte v).bind fun b=>(lbs l).map (b:: ·):=rfl
@[simp] theorem lbs_map: ∀l:List UInt8,lbs (l.map bv)=some l
 | []=>rfl
 |a::l=>by simp only [List.map_cons,lbs,bv,lbyte_bv,Option.bind_some,lbs_map l,Option.map_some]
theorem lconv_bs {a c e:TypeId} {o n cp:Nat} {z:List UInt8} (h1:P.underlying a=some (.slice e)) (h2:P.underlying c=some .string) (h3:P.underlying e=some (.int .u8)) (hb:H.get l=some b) (hle:o+n≤b.cells.length) (hz:lbs ((b.cells.drop o).take n)=some z):lconv P a c (.slice (some ⟨l,o,none⟩) n cp) H=some (str z):=by
 have e1:flatB (.slice (some ⟨l,o,none⟩) n cp)=false:=by simp [flatB,flat1B,atomB]
 unfold lconv lbstr
 simp only [e1,h1,h2,h3,hb,lcells,if_pos hle,lbs_eq,hz,Option.map_some]
 rfl
def plc (P:Program) (t:TypeId):Option (List (Nat×Nat)):=match P.underlying t with
 |some (.struct fs)=>fs.toList.mapM (fun f=>(P.info? f.type).map fun i=>(f.offset,i.size))
 |_=>none
def plcB (P:Program) (t:TypeId):Bool:=(plc P t).isSome
def lfill (P:Program) (t:TypeId) (cs:List Value) (ps:List (Nat×Value)):Option (List Value):=match plc P t with
 |some pl=>(Instr.fill (pl.toArray[·]?) cs.toArray ps).map Array.toList
 |none=>none
theorem mapM_get {α β:Type} {f:α→Option β} : ∀ {l:List α} {r:List β},l.mapM f=some r→ ∀(i:Nat) x,l[i]?=some x→r[i]?=f x
 | [],r,h,i,x,hx=>by simp at hx
 |a::l,r,h,i,x,hx=>by
  simp only [List.mapM_cons,Option.bind_eq_bind,Option.pure_def]at h
  cases ha:f a with
  |none=>simp [ha]at h
  |some y=>
   simp only [ha,Option.bind_some]at h
   cases hl:l.mapM f with
   |none=>simp [hl]at h
   |some ys=>
    simp only [hl,Option.bind_some,Option.some.injEq]at h
    subst h
    cases i with
    |zero=>simp at hx;subst hx;simp [ha]
    |succ i=>simpa using mapM_get hl i x (by simpa using hx)
theorem plc_get {pl:List (Nat×Nat)} (hp:plc P t=some pl) {i o n:Nat} {g:Bool} (hf:fldi P t i=some (o,n,g)):pl[i]?=some (o,n):=by
 unfold fldi at hf
 unfold plc at hp
 split at hf
 ·rename_i fs hu
  rw [hu]at hp
  split at hf
  ·rename_i fd hfd
   split at hf
   ·rename_i n' g' hs ha
    simp only [Option.some.injEq,Prod.mk.injEq]at hf
    obtain⟨rfl,rfl,rfl⟩:=hf
    rw [mapM_get hp i fd (by simpa using hfd)]
    unfold sz at hs
    cases hi:P.info? fd.type with
    |none=>simp [hi]at hs
    |some it=>simp [hi]at hs;simp [hs]
   ·cases hf
  ·cases hf
 ·cases hf
@[simp] theorem lfill_nil {cs:List Value} (h:plcB P t=true):lfill P t cs []=some cs:=by
 unfold plcB at h
 unfold lfill
 cases hp:plc P t with
 |none=>simp [hp]at h
 |some pl=>rfl
theorem fold_splice: ∀(vs:List Value) (pre cs:List Value) (off:Nat),off+pre.length+vs.length≤cs.length→(vs.toArray.zipIdx pre.length).foldl (fun cs (c,j)=>cs.setIfInBounds (off+j) c) cs.toArray=(splice cs (off+pre.length) vs).toArray
 | [],pre,cs,off,h=>by
  rw [show(([]:List Value).toArray.zipIdx pre.length)=#[] from by apply Array.ext<;>simp]
  simp [splice]
 |v::vs,pre,cs,off,h=>by
  have hh:off+pre.length<cs.length:=by simp at h;omega
  have ih:=fold_splice vs (pre++ [v]) (cs.set (off+pre.length) v) off (by simp at h⊢;omega)
  have e:(v::vs).toArray.zipIdx pre.length=((v,pre.length)::(vs.zipIdx (pre.length+1))).toArray:=by simp
  rw [e]
  have e2:(vs.toArray.zipIdx (pre++ [v]).length)=(vs.zipIdx (pre.length+1)).toArray:=by simp
  rw [e2]at ih
  simp only [List.foldl_toArray',List.size_toArray,List.foldl_cons,List.setIfInBounds_toArray]at ih⊢
  rw [ih]
  congr 1
  unfold splice
  simp only [List.length_append,List.length_cons,List.length_nil,Nat.zero_add,←Nat.add_assoc]
  rw [List.take_set,List.drop_set,if_pos (by omega)]
  have e3:(cs.take (off+pre.length+1)).set (off+pre.length) v=cs.take (off+pre.length)++ [v]:=by
   rw [List.take_succ_eq_append_getElem hh,List.set_append,if_neg (by simp;omega)]
   simp [Nat.min_eq_left (Nat.le_of_lt hh)]
  rw [e3]
  simp [Nat.add_assoc,Nat.add_comm,Nat.add_left_comm]
theorem lfill_step {cs:List Value} {i o n:Nat} {g:Bool} {v:Value} {ps:List (Nat×Value)} (hf:fldi P t i=some (o,n,g)) (hn:v.cells.toList.length=n) (ho:o+n≤cs.length):lfill P t cs ((i,v)::ps)=lfill P t (splice cs o v.cells.toList) ps:=by
 unfold lfill
 cases hp:plc P t with
 |none=>rfl
 |some pl=>
  have h1:pl.toArray[i]?=some (o,n):=by simpa using plc_get hp hf
  simp only [Instr.fill,h1]
  rw [if_neg (by simp at hn⊢;omega)]
  have:=fold_splice v.cells.toList [] cs o (by simp at hn⊢;omega)
  simp only [List.length_nil,Nat.add_zero,Array.toArray_toList]at this
  rw [this]
@[simp] theorem lfill_cell {cs:List Value} {i o n:Nat} {g:Bool} {v:Value} {ps:List (Nat×Value)} (hf:fldi P t i=some (o,n,g)) (hn:n=1) (hv:cellB v=true) (ho:o<cs.length):lfill P t cs ((i,v)::ps)=lfill P t (cs.set o v) ps:=by
 subst hn
 rw [lfill_step hf (by rw [cells_one hv];rfl) (by omega)]
 congr 1
 rw [cells_one hv]
 unfold splice
 rw [List.set_eq_take_append_cons_drop,if_pos ho];simp
@[simp] theorem lfill_agg {cs vs:List Value} {i o n:Nat} {g:Bool} {ps:List (Nat×Value)} (hf:fldi P t i=some (o,n,g)) (hn:vs.length=n) (ho:o+n≤cs.length):lfill P t cs ((i,.agg ⟨vs⟩)::ps)=lfill P t (splice cs o vs) ps:=
 lfill_step hf hn ho
def lbE (P:Program) (t:TypeId) (z:Option Value) (ps:List (Nat×Value)):Option Value:=
 match z with
 |some z=>if ps.all (fun p=>knownB p.2)&&flatB z then(lfill P t z.cells.toList ps).map fun cs=>.agg ⟨cs⟩else none
 |none=>none
theorem lbuild_eq {ps:List (Nat×Value)} :lbuild P t ps=lbE P t (zr P t) ps:=by
 unfold lbuild lbE zr lfill plc
 cases hi:P.info? t with
 |none=>simp
 |some it=>
  simp only [Option.bind_some]
  have hz:it.zero=none∨ ∃z,it.zero=some z:=by cases it.zero<;>simp
  rcases hz with hz|⟨z,hz⟩
  ·simp [hz]
  ·simp only [hz,Option.any_some]
   split
   ·cases hu:P.underlying t with
    |none=>rfl
    |some u=>
     cases u<;>try rfl
     rename_i fs
     simp only [Program.built,hi,hu,hz]
     cases fs.toList.mapM (fun f=>(P.info? f.type).map fun i=>(f.offset,i.size))with
     |none=>rfl
     |some pl=>
      simp only [Array.toArray_toList]
      cases Instr.fill (pl.toArray[·]?) z.cells ps with
      |none=>rfl
      |some cs=>rfl
   ·rfl
@[simp ↓] theorem lopx_build {ps:List (Nat×Operand)} :lopx P T (.build t ⟨ps⟩) fr H=withH (lbE P t (zr P t) (ps.map fun p=>(p.1,ev fr p.2))) H:=by
 rw [←lbuild_eq];rfl
def knownL:List (Nat×Value)→Bool
 | []=>true
 |(_,v)::ps=>knownB v&&knownL ps
@[simp] theorem knownL_nil:knownL []=true:=rfl
@[simp] theorem knownL_cons {i:Nat} {v:Value} {ps:List (Nat×Value)} :knownL ((i,v)::ps)=(knownB v&&knownL ps):=rfl
theorem known_of_cell {v:Value} (h:cellB v=true):knownB v=true:=by cases v<;>first|rfl|(simp [cellB]at h)
attribute [simp] known_of_cell
@[simp] theorem known_agg {a:Array Value} :knownB (.agg a)=true:=rfl
theorem knownL_eq: ∀(ps:List (Nat×Value)),ps.all (fun p=>knownB p.2)=knownL ps
 | []=>rfl
 |(i,v)::ps=>by simp only [List.all_cons,knownL,knownL_eq ps]
theorem lbE_agg {z:List Value} {ps:List (Nat×Value)} (hk:knownL ps=true) (hz:z.all atomB=true):lbE P t (some (.agg ⟨z⟩)) ps=(lfill P t z ps).map fun cs=>.agg ⟨cs⟩:=by
 have:flatB (.agg ⟨z⟩)=true:=hz
 simp only [lbE,knownL_eq,hk,this,Bool.and_self,if_true,Value.cells]
attribute [simp] lbE_agg
def lfld (i:Option (Nat×Nat×Bool)) (x:Value):Option Value:=match i,x with
 |some (o,n,true),.agg cs=>some (.agg (cs.extract o (o+n)))
 |some (o,_,false),.agg cs=>cs[o]?
 |_,_=>none
theorem lopx_field {x:Operand} {f:Nat} {i:Nat×Nat×Bool} (h:fldi P t f=some i):lopx P T (.field t x f) fr H=withH (lfld (some i) (ev fr x)) H:=by
 unfold fldi at h
 show(lpure P (.field t x f) fr).map _=_
 split at h
 ·rename_i fs hu
  split at h
  ·rename_i fd hf
   split at h
   ·rename_i n g hs ha
    injection h with h
    subst h
    unfold lfld withH lpure
    simp only [hu]
    cases ev fr x<;>cases g<;>simp only [hf,hs,ha]
   ·cases h
  ·cases h
 ·cases h
attribute [simp] lopx_field
@[simp] theorem lfld_cell {o n:Nat} {cs:List Value} :lfld (some (o,n,false)) (.agg ⟨cs⟩)=cs[o]?:=by simp [lfld]
@[simp] theorem lfld_agg {o n:Nat} {cs:List Value} :lfld (some (o,n,true)) (.agg ⟨cs⟩)=some (.agg ⟨(cs.drop o).take n⟩):=by simp [lfld]
@[simp] theorem lbin_pe {a:Option Addr} (hu:P.underlying t=some (.pointer e)):lbin P .eql t (.pointer a) (.pointer none)=some (.bool a.isNone):=by
 cases a<;>simp [lbin,hu]
@[simp] theorem lbin_pn {a:Option Addr} (hu:P.underlying t=some (.pointer e)):lbin P .neq t (.pointer a) (.pointer none)=some (.bool (!a.isNone)):=by
 cases a<;>simp [lbin,hu]
@[simp] theorem lbin_se {a:Option Addr} {n c:Nat} (hu:P.underlying t=some (.slice e)):lbin P .eql t (.slice a n c) (.slice none 0 0)=some (.bool a.isNone):=by
 cases a<;>simp [lbin,hu]
@[simp] theorem lbin_sn {a:Option Addr} {n c:Nat} (hu:P.underlying t=some (.slice e)):lbin P .neq t (.slice a n c) (.slice none 0 0)=some (.bool (!a.isNone)):=by
 cases a<;>simp [lbin,hu]
@[simp] theorem lbuiltin_max {ts:List TypeId} {k k':IntKind} {a b:Int} :lbuiltin P .max ts [.int k a,.int k' b] H=some (.int k (if a<b then b else a),H):=rfl
@[simp] theorem lbuiltin_min {ts:List TypeId} {k k':IntKind} {a b:Int} :lbuiltin P .min ts [.int k a,.int k' b] H=some (.int k (if b<a then b else a),H):=rfl
theorem trunc_or (v:Value) (H H':LH):trunc H (v,H')=(v,H')∨trunc H (v,H')=(v,H)∧flatB v=true∧H.le H':=by
 unfold trunc
 split
 ·exact .inr ⟨rfl,by assumption⟩
 ·exact .inl rfl
end
end Go.Lg
namespace Go.Lg
def chQ (q:Nat):List (Nat×Nat):=if q<4201007 then(if q<2302015 then(if q<1503010 then(if q<1001006 then(if q<701005 then(if q=700005 then [(0,2)]else [])else if q<801006 then(if q=701005 then [(0,3)]else [])else if q=801006 then [(0,3),(0,4)]else [])else if q<1001008 then(if q=1001006 then [(0,4)]else [])else if q<1502006 then(if q=1001008 then [(1,5),(3,5)]else [])else if q=1502006 then [(2,4)]else [])else if q<1801012 then(if q<1503011 then(if q=1503010 then [(7,8)]else [])else if q<1701015 then(if q=1503011 then [(3,8)]else [])else if q=1701015 then [(5,11)]else [])else if q<2003009 then(if q<1801014 then(if q=1801012 then [(8,6)]else [])else if q=1801014 then [(9,8)]else [])else if q<2206004 then(if q=2003009 then [(1,3),(6,3)]else [])else if q=2206004 then [(1,2)]else [])else if q<3806015 then(if q<2706018 then(if q<2403008 then(if q=2302015 then [(9,7),(10,7)]else [])else if q<2404007 then(if q=2403008 then [(0,3),(0,5)]else [])else if q=2404007 then [(0,4)]else [])else if q<3302022 then(if q<3000016 then(if q=2706018 then [(7,4),(10,4),(10,8),(13,4),(13,8),(13,11)]else [])else if q=3000016 then [(12,8),(13,8)]else [])else if q<3605017 then(if q=3302022 then [(6,4)]else [])else if q=3605017 then [(11,6)]else [])else if q<3904016 then(if q<3901014 then(if q=3806015 then [(4,2),(7,2),(7,5)]else [])else if q<3902023 then(if q=3901014 then [(9,6),(9,7)]else [])else if q=3902023 then [(19,17)]else [])else if q<3907013 then(if q<3906011 then(if q=3904016 then [(3,9),(5,9),(5,11),(7,9),(7,11),(7,13)]else [])else if q=3906011 then [(0,5)]else [])else if q<4101015 then(if q=3907013 then [(0,5),(0,9)]else [])else if q=4101015 then [(1,6),(1,10),(1,11),(1,13),(3,6),(3,10),(3,11),(3,13),(5,10),(5,13)]else [])else if q<6010012 then(if q<4910005 then(if q<4402005 then(if q<4205012 then(if q=4201007 then [(3,1)]else [])else if q<4205013 then(if q=4205012 then [(2,7)]else [])else if q=4205013 then [(2,1),(3,1),(7,1),(7,4),(10,1),(10,4)]else [])else if q<4503015 then(if q<4403016 then(if q=4402005 then [(2,1)]else [])else if q=4403016 then [(2,8),(2,10),(6,8)]else [])else if q<4701016 then(if q=4503015 then [(9,11)]else [])else if q=4701016 then [(1,7),(1,12),(11,7)]else [])else if q<5805020 then(if q<5406017 then(if q=4910005 then [(0,2)]else [])else if q<5704011 then(if q=5406017 then [(3,12),(5,12)]else [])else if q=5704011 then [(3,5)]else [])else if q<5903011 then(if q<5813010 then(if q=5805020 then [(8,4),(13,4),(13,9)]else [])else if q=5813010 then [(6,1),(6,2)]else [])else if q<6005013 then(if q=5903011 then [(2,0),(2,8),(5,8),(7,0)]else [])else if q=6005013 then [(3,8),(3,11),(7,11)]else [])else if q<7303005 then(if q<6712009 then(if q<6501011 then(if q=6010012 then [(5,7)]else [])else if q<6504017 then(if q=6501011 then [(2,0),(2,8),(5,8),(7,0)]else [])else if q=6504017 then [(6,4),(6,9),(6,12),(8,4),(11,4),(11,9)]else [])else if q<6812011 then(if q<6806012 then(if q=6712009 then [(1,4)]else [])else if q=6806012 then [(3,8),(3,9),(7,8),(7,9),(7,10)]else [])else if q<7211017 then(if q=6812011 then [(5,2),(5,3)]else [])else if q=7211017 then [(0,4),(0,7),(0,12)]else [])else if q<8110009 then(if q<8003019 then(if q=7303005 then [(0,2)]else [])else if q<8008013 then(if q=8003019 then [(4,17),(9,17)]else [])else if q=8008013 then [(3,5),(8,10)]else [])else if q<9903032 then(if q<8204014 then(if q=8110009 then [(3,5),(7,5)]else [])else if q=8204014 then [(6,11),(9,11)]else [])else if q<9904024 then(if q=9903032 then [(14,12),(22,20)]else [])else if q=9904024 then [(13,11)]else []
def chT (n id k:Nat):List (Nat×Nat):=chQ (n*100000+id*1000+k)
end Go.Lg
namespace Go.Lg
open Go.Tg Go.RowKit
section
variable {P:Program} {E:Ext} {H H':LH} {ι:Ren} {w w':World} {v v':Value}
def ren0:Ren:=fun _=>⟨0,0,0⟩
theorem rel_empty {w:World} {ng:Nat} (h:ng≤w.heap.size):Rel P (LH.empty w ng) ren0 w:=
 ⟨fun _ _=>rfl,fun _ h=>h.elim,(fun _ _ h=>by cases h),(fun _ _ _ _ h=>by cases h),fun g hg=>⟨rfl,Nat.lt_of_lt_of_le hg h,fun⟨_,_,h,_⟩=>by cases h⟩⟩
theorem flats_rel {D:Nat→Prop} {ι:Ren} {args:List Value} (h: ∀x∈args,flatB x=true):args.length=args.toArray.size∧ ∀(i:Nat) (x y:Value),args[i]?=some x→args.toArray[i]?=some y→VR D ι x y:=by
 refine⟨by simp,fun i x y hx hy=>?_⟩
 rw [List.getElem?_toArray,hx]at hy
 injection hy with hy
 subst hy
 exact .flat _ (h x (List.mem_of_getElem? hx))
abbrev Spec:=List Value→LH→Option (Value×LH)
def SpecOk (P:Program) (f:FuncId) (s:Spec):Prop:= ∀args H v H',s args H=some (v,H')→Ran P f args H v H'
def cvS (s d:TypeId):Bool:=s==9&&d==94
def extLL (l:List (FuncId×Spec)) (loud:List FuncId):Ext:=⟨fun f=>(l.find? (fun p=>p.1==f)).map (·.2),⟨chT,cvS,fun _ _ _=> []⟩⟩
@[simp] theorem extLL_pm {l:List (FuncId×Spec)} {loud:List FuncId} {n id k:Nat} :(extLL l loud).loud.pm n id k= []:=rfl
@[simp] theorem extLL_cv {l:List (FuncId×Spec)} {loud:List FuncId} {s d:TypeId} :(extLL l loud).loud.cv s d=(s==9&&d==94):=id rfl
@[simp] theorem extLL_ch {l:List (FuncId×Spec)} {loud:List FuncId} {n id k:Nat} :(extLL l loud).loud.ch n id k=chT n id k:=rfl
attribute [simp] chT chQ
theorem extL_ok {l:List (FuncId×Spec)} {loud:List FuncId} (h: ∀p∈l,SpecOk P p.1 p.2):ExtOk P (extLL l loud):=by
 intro f s hs args H v H' hr
 unfold extLL at hs
 obtain⟨p,hp,rfl⟩:=Option.map_eq_some_iff.1 hs
 have h1:=List.find?_some hp
 have h2:=List.mem_of_find?_eq_some hp
 simp only [beq_iff_eq]at h1
 subst h1
 exact h p h2 args H v H' hr
theorem callOk_flatC {f:FuncId} {args:List Value} (hf: ∀x∈args,flatB x=true) (hv:flatB v=true) (h: ∀w,Calls P f args.toArray w fun e w'=>e=.returned v∧Change (fun _=>False) w w'):CallOk P f args H v H:=by
 intro ι w args' hrel h1 h2
 have e:args'=args.toArray:=by
  apply Array.ext
  ·simp [h1]
  ·intro i h3 h4
   have hx:args[i]?=some (args[i]'(by simpa using h4)):=List.getElem?_eq_getElem _
   have:=flat_eq (h2 i _ _ hx (Array.getElem?_eq_getElem h3)) (hf _ (List.getElem_mem _))
   rw [this];simp
 subst e
 refine(h w).mono ?_
 rintro e w' ⟨rfl,hc⟩
 exact⟨ι,v,rfl,out_change hrel hc,.flat _ hv⟩
theorem callOk_row {f:FuncId} {args:List Value} {cells:List Value} {e:TypeId} {k:Nat} (hf: ∀x∈args,flatB x=true) (hc: ∀x∈cells,flatB x=true) (hs:sz P e=some 1) (hk:cells.length=k) (hm:k≤maxLen)
  (h: ∀ι w,Rel P H ι w→Calls P f args.toArray w fun x w'=>x=.returned (.slice (some ⟨w.heap.size,0,none⟩) k k)∧w'=w.alloc (.cells cells.toArray e)):CallOk P f args H (sl H.n k k) (H.new ⟨cells,e,true⟩):=by
 intro ι w args' hrel h1 h2
 have e1:args'=args.toArray:=by
  apply Array.ext
  ·simp [h1]
  ·intro i h3 h4
   have hx:args[i]?=some (args[i]'(by simpa using h4)):=List.getElem?_eq_getElem _
   have:=flat_eq (h2 i _ _ hx (Array.getElem?_eq_getElem h3)) (hf _ (List.getElem_mem _))
   rw [this];simp
 subst e1
 refine(h ι w hrel).mono ?_
 rintro x w' ⟨rfl,rfl⟩
 obtain⟨ho,h3,h4⟩:=rel_new hrel (new_cells (b:=⟨cells,e,true⟩) (arr:=cells.toArray) rfl hs (by simp) (fun n hn hl=>by simp at hl;omega) (fun i x hx=>⟨x,by simpa using hx,.flat _ (hc x (List.mem_of_getElem? hx))⟩) w)
 refine⟨_,_,rfl,ho,?_⟩
 have:=VR.slice (n:=(H.new ⟨cells,e,true⟩).D) (ι:=ι.add H.n ⟨w.heap.size,0,0⟩) H.n 0 k k h3 (by rw [h4]) (Nat.le_refl _)
 simpa [Ren.add]using this
theorem pin_block (hrel:Rel P H ι w) {g:Nat} (hg:g<H.ng):w.heap[g]?=H.base.heap[g]?:=(hrel.pin g hg).1
end
section
variable {P:Program} {H H':LH} {v x:Value} {xs:List Value} {e t:TypeId} {N:Nat} {b:LB}
def Row (N:Nat) (H:LH) (e:TypeId) (v:Value) (xs:List Value):Prop:=
 (v=.slice none 0 0∧xs= [])∨ ∃k c rest,v=sl k xs.length c∧N≤k∧H.get k=some ⟨xs++rest,e,true⟩∧c=xs.length+rest.length
def offRow (v:Value) (k:Nat):Prop:= ∀n c,v≠sl k n c
theorem Row.nil:Row N H e (.slice none 0 0) []:=.inl ⟨rfl,rfl⟩
theorem Row.len (h:Row N H e v xs) (hu:P.underlying t=some (.slice e)):lbuiltin P .len [t] [v] H'=some (.int .i64 xs.length,H'):=by
 rcases h with⟨rfl,rfl⟩|⟨k,c,rest,rfl,_⟩
 ·exact lbuiltin_len_slice hu
 ·exact lbuiltin_len_slice hu
theorem Row.cell (h:Row N H e v xs):cellB v=true:=by
 rcases h with⟨rfl,rfl⟩|⟨k,c,rest,rfl,_⟩<;>simp
theorem Row.keep (h:Row N H e v xs) (hk: ∀k,N≤k→ ¬offRow v k→H'.get k=H.get k):Row N H' e v xs:=by
 rcases h with⟨rfl,rfl⟩|⟨k,c,rest,rfl,h1,h2,h3⟩
 ·exact .inl ⟨rfl,rfl⟩
 ·exact .inr ⟨k,c,rest,rfl,h1,by rw [hk k h1 (fun h=>h _ _ rfl)];exact h2,h3⟩
theorem Row.off_of_elem (h:Row N H e v xs) {l:Nat} (hl:H.get l=some b) (hne:b.elem≠e):offRow v l:=by
 rcases h with⟨rfl,rfl⟩|⟨k,c,rest,rfl,h1,h2,h3⟩
 ·intro n c h;cases h
 ·intro n c h
  injection h with h
  injection h with h
  injection h with h
  subst h
  rw [h2]at hl
  injection hl with hl
  subst hl
  exact hne rfl
theorem off_nil {k:Nat} :offRow (.slice none 0 0) k:=fun n c h=>by cases h
theorem Row.push (h:Row N H e v xs) (hu:P.underlying t=some (.slice e)) (hs:lesz P e=some 1) (hx:cellB x=true) (hm:xs.length+1≤maxElems) (hN:N≤H.n) (hdom: ∀l,H.n≤l→H.get l=none):
  ∃v' H',lapp P t v (some (1,[x])) H=some (v',H')∧Row N H' e v' (xs++ [x])∧H.n≤H'.n∧(∀k,k<H.n→offRow v k→H'.get k=H.get k)∧(∀k,k<H.n→offRow v k→offRow v' k)∧(∀l,H'.n≤l→H'.get l=none)∧H'.base=H.base∧H'.ng=H.ng:=by
 have hc: [x].all cellB=true:=by simp [hx]
 rcases h with⟨rfl,rfl⟩|⟨k,c,rest,rfl,h1,h2,h3⟩
 ·refine⟨_,_,lapp_nil hu hs hc (by omega) (by simp [maxElems]),.inr ⟨H.n,1,[],rfl,hN,by simp,rfl⟩,by simp,fun k hk _=>get_new_ne (by omega),fun k hk _ n c h=>?_,fun l hl=>?_,rfl,rfl⟩
  ·injection h with h
   injection h with h
   injection h with h
   omega
  ·have:H.n+1≤l:=hl
   rw [get_new_ne (by omega)];exact hdom l (by omega)
 ·have hklt:k<H.n:=by
   rcases Nat.lt_or_ge k H.n with h|h
   ·exact h
   ·rw [hdom k h]at h2;cases h2
  cases rest with
  |nil=>
   simp only [List.length_nil,Nat.add_zero]at h3
   subst h3
   have ha:=lapp_grow (P:=P) (H:=H) (t:=t) (m:=1) (new:= [x]) (n:=xs.length) (s:=1) hu hs hc (by omega) hm h2 rfl rfl (by simp)
   simp only [List.append_nil]at ha h2
   refine⟨_,_,ha,.inr ⟨H.n,xs.length+1,[],by simp,hN,?_,by simp⟩,by simp,fun j hj ho=>?_,fun j hj ho n c h=>?_,fun l hl=>?_,rfl,rfl⟩
   ·rw [show H.n=(H.kill k).n from rfl,get_new];simp
   ·have hjk:j≠k:=fun e=>ho _ _ (by rw [e])
    rw [get_new_ne (by simp;omega),get_kill_ne hjk]
   ·injection h with h
    injection h with h
    injection h with h
    omega
   ·have:H.n+1≤l:=hl
    rw [get_new_ne (by simp;omega),get_kill_ne (by omega)];exact hdom l (by omega)
  |cons z rest=>
   have ha:=lapp_in (P:=P) (H:=H) (t:=t) (m:=1) (new:= [x]) (n:=xs.length) (cp:=c) (s:=1) hu hs hc (by omega) h2 rfl rfl (by simp [h3]) (by simp [h3])
   refine⟨_,_,ha,.inr ⟨k,c,rest,by simp,h1,?_,by simp [h3];omega⟩,by simp,fun j hj ho=>?_,fun j hj ho n c' h=>?_,fun l hl=>?_,rfl,rfl⟩
   ·rw [get_set]
    congr 2
    simp [splice]
   ·have hjk:j≠k:=fun e=>ho _ _ (by rw [e])
    rw [get_set_ne hjk]
   ·injection h with h
    injection h with h
    injection h with h
    subst h
    exact ho _ _ rfl
   ·have:H.n≤l:=hl
    rw [get_set_ne (by omega)];exact hdom l this
theorem Row.take (h:Row N H e v xs) (hu:P.underlying t=some (.slice e)) (hs:sz P e=some 1) {j:Int} {kd:IntKind} (h0:0≤j) (h1:j<xs.length): ∃v',lpart P t v none (some (.int kd j))=some v'∧Row N H e v' (xs.take j.toNat)∧ ∀k,offRow v k→offRow v' k:=by
 rcases h with⟨rfl,rfl⟩|⟨k,c,rest,rfl,g1,g2,g3⟩
 ·simp at h1;omega
 ·refine⟨_,lpart_row_ns hu hs h0 (by omega),.inr ⟨k,c,xs.drop j.toNat++rest,?_,g1,?_,?_⟩,fun i hi n c' h=>?_⟩
  ·rw [List.length_take,Nat.min_eq_left (by omega)]
  ·rw [←List.append_assoc,List.take_append_drop];exact g2
  ·simp;omega
  ·injection h with h
   injection h with h
   injection h with h
   subst h
   exact hi _ _ rfl
theorem Row.at (h:Row N H e v xs) (hu:P.underlying t=some (.slice e)) (hs:sz P e=some 1) (ha:aggB P e=some false) {j:Int} {kd:IntKind} (h0:0≤j) (h1:j<xs.length) {d:Value} : ∃p,lixa P t v (.int kd j) H'=some (p,H')∧lld P e p H=some (xs.getD j.toNat d):=by
 rcases h with⟨rfl,rfl⟩|⟨k,c,rest,rfl,g1,g2,g3⟩
 ·simp at h1;omega
 ·refine⟨_,lixa_row hu hs h0 (by omega),?_⟩
  rw [lld_ptr g2,ha]
  simp only [lldb_cell,Nat.zero_add,Nat.mul_one]
  have hlt:j.toNat<xs.length:=by omega
  rw [List.getElem?_append,if_pos hlt,List.getD_eq_getElem?_getD,List.getElem?_eq_getElem hlt];rfl
end
end Go.Lg
namespace Tg.Hd
open Go.Lg (str)
abbrev Hdr:=List UInt8×List UInt8
def white (b:UInt8):Bool:=([9,10,13,32]:List UInt8).contains b
def trimE (s:List UInt8):List UInt8:=(s.reverse.dropWhile white).reverse
def trim (s:List UInt8):List UInt8:=(trimE s).dropWhile white
def signs:List UInt8:= [33,35,36,37,38,39,42,43,45,46,94,95,124,126,96]
def isL (b:UInt8):Bool:=(decide ((97:Int)≤b.toNat)&&decide ((b.toNat:Int)≤122))||(decide ((65:Int)≤b.toNat)&&decide ((b.toNat:Int)≤90))
def isD (b:UInt8):Bool:=decide ((48:Int)≤b.toNat)&&decide ((b.toNat:Int)≤57)
def tok (b:UInt8):Bool:=isL b||isD b||signs.contains b
def free (of s:List UInt8):Bool:=s.all fun b=>!of.contains b
def fine (h:Hdr):Bool:=decide (h.1≠ [])&&h.1.all tok&&decide (trim h.2=h.2)&&free [0,13,10] h.2&&decide (h.2.length≤8192)
def good (l:List Hdr):Bool:=decide (l.length≤100)&&l.all fine
def cells (l:List Hdr):List Go.Value:=l.flatMap fun h=> [str h.1,str h.2]
theorem cells_cons (h:Hdr) (l:List Hdr):cells (h::l)=str h.1::str h.2::cells l:=rfl
theorem cells_app (a b:List Hdr):cells (a++b)=cells a++cells b:=List.flatMap_append
theorem cells_len: ∀l:List Hdr,(cells l).length=l.length*2
 | []=>rfl
 |h::l=>by rw [cells_cons];simp [cells_len l];omega
theorem cells_at: ∀ {l:List Hdr} {i:Nat} (h:i<l.length) (r:List Go.Value),((cells l++r).drop (i*2)).take 2= [str l[i].1,str l[i].2]∧(cells l++r)[i*2]?=some (str l[i].1)∧(cells l++r)[i*2+1]?=some (str l[i].2)
 | [],i,h,_=>by simp at h
 |x::l,0,h,r=>by rw [cells_cons];exact⟨rfl,rfl,rfl⟩
 |x::l,i+1,h,r=>by
  have ih:=cells_at (l:=l) (i:=i) (by simpa using h) r
  rw [cells_cons,show(i+1)*2=i*2+2 by omega]
  exact ih
def lines:List UInt8→List (List UInt8)
 | []=> [[]]
 |b::r=>if b=10 then []::lines r else match lines r with
  | []=> [[b]]
  |p::l=>(b::p)::l
def stripR (t:List UInt8):List UInt8:=if t.getLast?=some 13 then t.dropLast else t
def upto (c:UInt8) (t:List UInt8):Nat:=(t.takeWhile fun b=>!(b==c)).length
def lineP (t:List UInt8):Option Hdr:=
 if t.contains 58 then
  let h:Hdr:=(t.take (upto 58 t),trim (t.drop (upto 58 t+1)))
  if fine h then some h else none
 else none
def rows:List (List UInt8)→Nat→List Hdr→List Hdr×Int×Int
 | [],_,acc=>if 100<acc.length then([],0,6)else(acc,0,0)
 |t::l,n,acc=>if stripR t= []then rows l (n+1) acc else match lineP (stripR t)with
  |none=>([],((n+1:Nat):Int),2)
  |some h=>rows l (n+1) (acc++ [h])
def text (l:List Hdr):List UInt8:=l.flatMap fun h=>h.1++ [58,32]++h.2++ [13,10]
def few (l:List Hdr) (n:Nat):List Hdr:=(l.take n).map fun h=>(h.1.take 30,h.2.take 100)
def same (a b:List UInt8):Bool:=decide (a.map Tg.Lo.low=b.map Tg.Lo.low)
end Tg.Hd
namespace Tg.Sc
open Tg.Hd (Hdr)
structure Ev where
 kind:Int
 id:Int
 url:List UInt8
 src:List UInt8
 mode:List UInt8
 media:Int
 status:Int
 hdrs:List Hdr
 body:List UInt8
deriving DecidableEq
def hexd:List UInt8:= [48,49,50,51,52,53,54,55,56,57,97,98,99,100,101,102]
def hd16 (n:Nat):UInt8:=hexd.getD n 0
def mark (b:UInt8):List UInt8:= [92,hd16 (b.toNat/16),hd16 (b.toNat%16)]
def odd (b:UInt8):Bool:=decide ((b.toNat:Int)<33)||decide ((126:Int)<b.toNat)||decide ((b.toNat:Int)=92)
def sign (b:UInt8):List UInt8:=if odd b=true then mark b else [b]
def esc (s:List UInt8):List UInt8:=if s= []then [45]else if s= [45]then mark 45 else s.flatMap sign
def hexv (b:UInt8):Nat:=
 if(48:Int)≤b.toNat∧(b.toNat:Int)≤57 then b.toNat-48
 else if(97:Int)≤b.toNat∧(b.toNat:Int)≤102 then b.toNat-87
 else if(65:Int)≤b.toNat∧(b.toNat:Int)≤70 then b.toNat-55 else 0
def byte2 (x y:UInt8):UInt8:=UInt8.ofNat (hexv x*16+hexv y)
def dec:List UInt8→List UInt8
 |92::x::y::r=>byte2 x y::dec r
 |b::r=>b::dec r
 | []=> []
def plainT (s:List UInt8):List UInt8:=if s= [45]then []else dec s
def plainB (s:List UInt8):Bool:=decide (esc (plainT s)=s)
theorem dec_nil:dec []= []:=rfl
theorem dec_two (x y:UInt8) (r:List UInt8):dec (92::x::y::r)=byte2 x y::dec r:=rfl
theorem dec_one {b:UInt8} (h:b≠92) (r:List UInt8):dec (b::r)=b::dec r:=by
 rw [dec]
 intro x y r' e
 exact absurd e h
theorem dec_short {b:UInt8} {r:List UInt8} (h:r.length<2):dec (b::r)=b::dec r:=by
 rw [dec]
 intro x y r' _ e
 rw [e]at h
 simp at h;omega
theorem hexv_hd: ∀k:Fin 16,hexv (hd16 k.1)=k.1:=by decide+kernel
theorem hexv_lt (b:UInt8):hexv b<16:=by
 unfold hexv
 split
 ·omega
 ·split
  ·omega
  ·split<;>omega
theorem byte_mark (b:UInt8):byte2 (hd16 (b.toNat/16)) (hd16 (b.toNat%16))=b:=by
 have hlt:=b.toNat_lt
 unfold byte2
 rw [hexv_hd ⟨b.toNat/16,by omega⟩,hexv_hd ⟨b.toNat%16,by omega⟩]
 simp only
 rw [show b.toNat/16*16+b.toNat%16=b.toNat by omega]
 simp
theorem dec_mark (b:UInt8) (r:List UInt8):dec (mark b++r)=b::dec r:=by
 show dec (92::hd16 (b.toNat/16)::hd16 (b.toNat%16)::r)=_
 rw [dec_two,byte_mark]
theorem dec_sign (b:UInt8) (r:List UInt8):dec (sign b++r)=b::dec r:=by
 unfold sign
 split
 ·exact dec_mark b r
 ·rename_i h
  have hb:b≠92:=fun e=>by subst e;exact h (by decide)
  exact dec_one hb r
theorem dec_flat: ∀s:List UInt8,dec (s.flatMap sign)=s
 | []=>by rfl
 |b::s=>by rw [List.flatMap_cons,dec_sign,dec_flat s]
theorem plain_esc (s:List UInt8):plainT (esc s)=s:=by
 unfold esc
 split
 ·rename_i h;subst h;rfl
 ·split
  ·rename_i h;subst h
   unfold plainT
   rw [if_neg (by decide)]
   have:=dec_mark 45 []
   rw [List.append_nil]at this
   rw [this];rfl
  ·rename_i h0 h1
   unfold plainT
   rw [if_neg,dec_flat]
   intro e
   have:=dec_flat s
   rw [e]at this
   have e2:dec [45]= [45]:=by rw [dec_one (by decide)];rfl
   exact h1 (by rw [←this,e2])
theorem esc_len (s:List UInt8):(esc s).length≤3*s.length+1:=by
 have: ∀s:List UInt8,(s.flatMap sign).length≤3*s.length:=fun s=>by
  induction s with
  |nil=>simp
  |cons b s ih=>
   rw [List.flatMap_cons,List.length_append,List.length_cons]
   have:(sign b).length≤3:=by unfold sign mark;split<;>simp
   omega
 unfold esc
 split
 ·simp
 ·split
  ·rename_i h;subst h;simp [mark]
  ·have:=this s;omega
theorem dec_len: ∀(n:Nat) (s:List UInt8),s.length≤n→(dec s).length≤s.length
 |0,s,h=>by
  cases s with
  |nil=>simp [dec_nil]
  |cons=>simp at h
 |n+1,s,h=>by
  cases s with
  |nil=>simp [dec_nil]
  |cons b r=>
   by_cases hb:b=92
   ·cases r with
    |nil=>rw [dec_short (by simp)];simp [dec_nil]
    |cons x r=>
     cases r with
     |nil=>rw [dec_short (by simp),dec_short (by simp)];simp [dec_nil]
     |cons y r=>
      subst hb
      rw [dec_two]
      have:=dec_len n r (by simp at h;omega)
      simp;omega
   ·rw [dec_one hb]
    have:=dec_len n r (by simp at h;omega)
    simp;omega
theorem plain_len (s:List UInt8):(plainT s).length≤s.length:=by
 unfold plainT
 split
 ·simp
 ·exact dec_len _ _ (Nat.le_refl _)
end Tg.Sc
namespace Tg.Sc
open Tg.Hd (Hdr)
open Go.Lib (itoa decDigits)
def cutAt (c:UInt8):List UInt8→List (List UInt8)
 | []=> [[]]
 |b::r=>if b=c then []::cutAt c r else match cutAt c r with
  | []=> [[b]]
  |p::l=>(b::p)::l
def wl:List (List UInt8)→List UInt8
 | []=> []
 | [w]=>w
 |w::v::l=>w++32::wl (v::l)
def feeds (l:List (List UInt8)):List UInt8:=l.flatMap fun s=>s++ [10]
def isD (b:UInt8):Bool:=decide ((48:Int)≤b.toNat)&&decide ((b.toNat:Int)≤57)
def dval (s:List UInt8):Nat:=s.foldl (fun n b=>10*n+(b.toNat-48)) 0
def numP (s:List UInt8):Nat:=if s= []∨s.all isD=false then 0 else if 9007199254740991<dval s then 0 else dval s
def kwAsk:List UInt8:= [97,115,107]
def kwHead:List UInt8:= [104,101,97,100]
def kwChunk:List UInt8:= [99,104,117,110,107]
def kwEnd:List UInt8:= [101,110,100]
def kwAbort:List UInt8:= [97,98,111,114,116]
def kwReset:List UInt8:= [114,101,115,101,116]
def words:List (List UInt8):= [kwAsk,kwHead,kwChunk,kwEnd,kwAbort,kwReset]
def modes:List (List UInt8):= [[110,111,45,99,111,114,115],[99,111,114,115],[115,97,109,101,45,111,114,105,103,105,110],[110,97,118,105,103,97,116,101]]
def kindP (w:List UInt8):List (List UInt8)→Nat→Nat
 | [],_=>0
 |x::l,i=>if x=w then i+1 else kindP w l (i+1)
def good (e:Ev):Bool:=
 (decide (1≤e.kind)&&decide (e.kind≤6))&&(if e.kind=6 then decide (e.id=0)else decide (1≤e.id)&&decide (e.id≤1000000))&&
 (if e.kind=1 then decide (e.url.length≤1000)&&decide (e.src.length≤1000)&&(decide (0≤e.media)&&decide (e.media≤2))&&modes.contains e.mode else decide (e.url= [])&&decide (e.src= [])&&decide (e.mode= [])&&decide (e.media=0))&&
 (if e.kind=2 then(decide (0≤e.status)&&decide (e.status≤9999))&&Tg.Hd.good e.hdrs else decide (e.status=0)&&decide (e.hdrs= []))&&
 (if e.kind=3 then decide (e.body.length≤10000)else decide (e.body= []))
def hline (h:Hdr):List UInt8:=124::(h.1++58::32::esc h.2)
def headsL (word:List UInt8) (id status:Int) (l:List Hdr):List (List UInt8):=wl [word,itoa id,itoa status,itoa l.length]::l.map hline
def shown (e:Ev):List (List UInt8):=
 if e.kind=1 then [wl [kwAsk,itoa e.id,itoa e.media,e.mode,esc e.url,esc e.src]]
 else if e.kind=2 then headsL kwHead e.id e.status e.hdrs
 else if e.kind=3 then [wl [kwChunk,itoa e.id,esc e.body]]
 else if e.kind=6 then [kwReset]
 else if e.kind=4 then [wl [kwEnd,itoa e.id]]
 else [wl [kwAbort,itoa e.id]]
def cutCB:List UInt8→List UInt8×List UInt8
 |58::32::r=>([],r)
 |b::r=>(b::(cutCB r).1,(cutCB r).2)
 | []=>([],[])
def noBar (s:List UInt8):List UInt8:=match s with
 |124::r=>r
 |_=>s
def hdrP (s:List UInt8):Hdr:=((cutCB (noBar s)).1,plainT (cutCB (noBar s)).2)
def ev0:Ev:=⟨0,0,[],[],[],0,0,[],[]⟩
def eventP (line:List UInt8):Ev×Nat:=
 let ws:=cutAt 32 line
 let w:=fun i=>ws.getD i []
 let k:=kindP (w 0) words 0
 let e:Ev:= { ev0 with kind:=k,id:=numP (w 1) }
 if k=1 then({ e with media:=numP (w 2),mode:=w 3,url:=plainT (w 4),src:=plainT (w 5) },0)
 else if k=2 then({ e with status:=numP (w 2) },numP (w 3))
 else if k=3 then({ e with body:=plainT (w 2) },0)
 else(e,0)
def nextP (s:List UInt8) (r:List (List UInt8)):Option (Ev×Nat):=
 if r.length<(eventP s).2 then none
 else if good { (eventP s).1 with hdrs:=(r.take (eventP s).2).map hdrP } =true∧shown { (eventP s).1 with hdrs:=(r.take (eventP s).2).map hdrP } =s::r.take (eventP s).2 then some ({ (eventP s).1 with hdrs:=(r.take (eventP s).2).map hdrP },(eventP s).2)else none
def evs (l:List (List UInt8)):List Ev×Option (List (List UInt8)):=
 match l with
 | []=>([],none)
 |s::r=>match nextP s r with
  |none=>([],some (s::r))
  |some (e,n)=>(e::(evs (r.drop n)).1,(evs (r.drop n)).2)
termination_by l.length
decreasing_by all_goals (simp;omega)
structure Setup where
 legacy:Bool
 look:Int
 depth:Int
 table:Int
 valid:Int
deriving DecidableEq
def set0:Setup:=⟨false,0,0,0,0⟩
def fineS (c:Setup):Bool:=(decide (1445≤c.look)&&decide (c.look≤1048576)&&decide (0≤c.depth)&&decide (c.depth≤200))&&(decide (1≤c.table)&&decide (c.table≤1000))&&(decide (0≤c.valid)&&decide (c.valid≤10000))
def kwSetup:List UInt8:= [115,101,116,117,112]
def kwLegacy:List UInt8:= [108,101,103,97,99,121]
def kwOrb:List UInt8:= [111,114,98]
def setupT (c:Setup):List UInt8:=wl [kwSetup,if c.legacy then kwLegacy else kwOrb,itoa c.look,itoa c.depth,itoa c.table,itoa c.valid]
def setP (line:List UInt8):Setup:=
 let w:=fun i=>(cutAt 32 line).getD i []
 ⟨decide (w 1=kwLegacy),numP (w 2),numP (w 3),numP (w 4),numP (w 5)⟩
def settings (line:List UInt8):Option Setup:=if fineS (setP line)=true∧setupT (setP line)=line then some (setP line)else none
def readL (al:List (List UInt8)):Setup×List Ev×Int×Int:=
 match al.dropLast with
  | []=>(set0,[],1,2)
  |s0::r=>match settings s0 with
   |none=>(set0,[],1,2)
   |some c=>match (evs r).2 with
    |some left=>(set0,[],((r.length-left.length+2:Nat):Int),2)
    |none=>if al.getLast?.getD []≠ []then(set0,[],((r.length+2:Nat):Int),2)
     else if 5000<(evs r).1.length then(set0,[],0,6)else(c,(evs r).1,0,0)
def readP (s:List UInt8):Setup×List Ev×Int×Int:=if 4194304<s.length then(set0,[],0,6)else readL (cutAt 10 s)
def printT (c:Setup) (l:List Ev):List UInt8:=setupT c++10::feeds (l.flatMap shown)
theorem cut_ne (c:UInt8) (s:List UInt8):cutAt c s≠ []:=by
 cases s with
 |nil=>simp [cutAt]
 |cons b r=>
  unfold cutAt
  split
  ·simp
  ·split<;>simp
theorem cut_app {c:UInt8} (r:List UInt8): ∀ {a:List UInt8},c∉a→cutAt c (a++c::r)=a::cutAt c r
 | [],_=>by rw [List.nil_append,cutAt,if_pos rfl]
 |b::a,h=>by
  have hb:b≠c:=fun e=>h (by simp [e])
  rw [List.cons_append,cutAt,if_neg hb,cut_app r (fun e=>h (by simp [e]))]
theorem cut_one {c:UInt8} : ∀ {a:List UInt8},c∉a→cutAt c a= [a]
 | [],_=>rfl
 |b::a,h=>by
  have hb:b≠c:=fun e=>h (by simp [e])
  rw [cutAt,if_neg hb,cut_one (fun e=>h (by simp [e]))]
theorem cut_wl: ∀ {ws:List (List UInt8)},ws≠ []→(∀w∈ws,(32:UInt8)∉w)→cutAt 32 (wl ws)=ws
 | [],h,_=>absurd rfl h
 | [w],_,h=>by unfold wl;exact cut_one (h w (by simp))
 |w::v::l,_,h=>by
  unfold wl
  rw [cut_app _ (h w (by simp)),cut_wl (by simp) (fun x hx=>h x (by simp [hx]))]
theorem feeds_cons (s:List UInt8) (l:List (List UInt8)):feeds (s::l)=s++10::feeds l:=by unfold feeds;simp
theorem cut_feeds (rest:List UInt8): ∀ {l:List (List UInt8)},(∀s∈l,(10:UInt8)∉s)→cutAt 10 (feeds l++rest)=l++cutAt 10 rest
 | [],_=>rfl
 |s::l,h=>by
  rw [feeds_cons,List.append_assoc,List.cons_append,cut_app _ (h s (by simp)),cut_feeds rest (fun x hx=>h x (by simp [hx]))]
  rfl
theorem dd_small {n:Nat} (h:n<10):decDigits n= [UInt8.ofNat (48+n)]:=by rw [decDigits,dif_pos h]
theorem dd_big {n:Nat} (h: ¬n<10):decDigits n=decDigits (n/10)++ [UInt8.ofNat (48+n%10)]:=by rw [decDigits,dif_neg h]
theorem dg_F: ∀k:Fin 10,isD (UInt8.ofNat (48+k.1))=true∧(UInt8.ofNat (48+k.1)).toNat-48=k.1:=by decide
theorem dval_app (a b:List UInt8):dval (a++b)=b.foldl (fun n b=>10*n+(b.toNat-48)) (dval a):=by
 unfold dval;rw [List.foldl_append]
theorem dd_val (n:Nat):dval (decDigits n)=n∧(decDigits n).all isD=true∧decDigits n≠ []:=by
 by_cases h:n<10
 ·rw [dd_small h]
  obtain⟨q1,q2⟩:=dg_F ⟨n,h⟩
  dsimp only at q1 q2
  generalize UInt8.ofNat (48+n)=d at*
  refine⟨?_,?_,by simp⟩
  ·show 10*0+(d.toNat-48)=n
   omega
  ·rw [List.all_cons,q1];rfl
 ·have ih:=dd_val (n/10)
  obtain⟨q1,q2⟩:=dg_F ⟨n%10,by omega⟩
  dsimp only at q1 q2
  rw [dd_big h]
  generalize UInt8.ofNat (48+n%10)=d at*
  refine⟨?_,?_,by simp⟩
  ·rw [dval_app,ih.1]
   show 10*(n/10)+(d.toNat-48)=n
   omega
  ·rw [List.all_append,ih.2.1,List.all_cons,q1];rfl
termination_by n
theorem dd_pow: ∀(k n:Nat),n<10^(k+1)→(decDigits n).length≤k+1
 |k,n,h=>by
  by_cases h1:n<10
  ·rw [dd_small h1];simp
  ·cases k with
   |zero=>omega
   |succ k=>
    have:=dd_pow k (n/10) (by rw [Nat.pow_succ]at h;omega)
    rw [dd_big h1,List.length_append]
    simp only [List.length_cons,List.length_nil]
    omega
theorem itoa_short {n:Int} (h1: -9223372036854775808≤n) (h2:n≤9223372036854775807):(itoa n).length≤30:=by
 have e:(10:Nat)^(19+1)=100000000000000000000:=by decide
 unfold itoa
 split
 ·have:=dd_pow 19 n.natAbs (by rw [e];omega)
  simp only [List.length_cons];omega
 ·have:=dd_pow 19 n.toNat (by rw [e];omega)
  omega
theorem isD_ne {b:UInt8} (h:isD b=true):b≠32∧b≠10:=by
 constructor<;>(intro e;subst e;revert h;decide)
theorem itoa_num {n:Int} (h0:0≤n) (h:n≤9007199254740991):((numP (itoa n):Nat):Int)=n∧(32:UInt8)∉itoa n∧(10:UInt8)∉itoa n:=by
 have e:itoa n=decDigits n.toNat:=by unfold itoa;rw [if_neg (by omega)]
 obtain⟨h1,h2,h3⟩:=dd_val n.toNat
 rw [e]
 refine⟨?_,fun hm=>?_,fun hm=>?_⟩
 ·unfold numP
  rw [if_neg (fun g=>by
              rcases g with g|g
              ·exact h3 g
              ·rw [h2]at g;cases g),h1,if_neg (by omega)]
  omega
 ·exact(isD_ne (List.all_eq_true.mp h2 _ hm)).1 rfl
 ·exact(isD_ne (List.all_eq_true.mp h2 _ hm)).2 rfl
theorem itoa_clean (n:Int):(32:UInt8)∉itoa n∧(10:UInt8)∉itoa n:=by
 unfold itoa
 split
 ·obtain⟨_,h2,_⟩:=dd_val n.natAbs
  have h2:=List.all_eq_true.mp h2
  constructor
  ·intro hm
   rcases List.mem_cons.mp hm with e|hm
   ·revert e;decide
   ·exact(isD_ne (h2 _ hm)).1 rfl
  ·intro hm
   rcases List.mem_cons.mp hm with e|hm
   ·revert e;decide
   ·exact(isD_ne (h2 _ hm)).2 rfl
 ·obtain⟨_,h2,_⟩:=dd_val n.toNat
  have h2:=List.all_eq_true.mp h2
  exact⟨fun hm=>(isD_ne (h2 _ hm)).1 rfl,fun hm=>(isD_ne (h2 _ hm)).2 rfl⟩
theorem hd_F: ∀k:Fin 16,hd16 k.1≠32∧hd16 k.1≠10:=by decide
theorem mark_clean (b:UInt8):(32:UInt8)∉mark b∧(10:UInt8)∉mark b:=by
 have hlt:=b.toNat_lt
 have h1:=hd_F ⟨b.toNat/16,by omega⟩
 have h2:=hd_F ⟨b.toNat%16,by omega⟩
 simp only at h1 h2
 unfold mark
 refine⟨fun h=>?_,fun h=>?_⟩
 ·simp only [List.mem_cons,List.not_mem_nil,or_false]at h
  rcases h with h|h|h
  ·revert h;decide
  ·exact h1.1 h.symm
  ·exact h2.1 h.symm
 ·simp only [List.mem_cons,List.not_mem_nil,or_false]at h
  rcases h with h|h|h
  ·revert h;decide
  ·exact h1.2 h.symm
  ·exact h2.2 h.symm
theorem sign_clean (b:UInt8):(32:UInt8)∉sign b∧(10:UInt8)∉sign b:=by
 unfold sign
 split
 ·exact mark_clean b
 ·rename_i h
  constructor<;>
  ·intro hm
   simp only [List.mem_cons,List.not_mem_nil,or_false]at hm
   subst hm
   exact h (by decide)
theorem esc_clean (s:List UInt8):(32:UInt8)∉esc s∧(10:UInt8)∉esc s:=by
 unfold esc
 split
 ·decide
 ·split
  ·exact mark_clean 45
  ·constructor
   ·intro h
    obtain⟨b,_,hb⟩:=List.mem_flatMap.mp h
    exact(sign_clean b).1 hb
   ·intro h
    obtain⟨b,_,hb⟩:=List.mem_flatMap.mp h
    exact(sign_clean b).2 hb
theorem cutCB_at {r:List UInt8} : ∀ {a:List UInt8},(58:UInt8)∉a→cutCB (a++58::32::r)=(a,r)
 | [],_=>rfl
 |b::a,h=>by
  have ih:=cutCB_at (r:=r) (a:=a) (fun e=>h (by simp [e]))
  have hb:b≠58:=fun e=>h (by simp [e])
  rw [List.cons_append,cutCB,ih]
  intro r' e _
  exact absurd e hb
theorem tok_ne {b:UInt8} (h:Tg.Hd.tok b=true):b≠58∧b≠10∧b≠32:=by
 refine⟨?_,?_,?_⟩<;>(intro e;subst e;revert h;decide)
theorem hdr_back {h:Hdr} (hf:Tg.Hd.fine h=true):hdrP (hline h)=h∧(10:UInt8)∉hline h:=by
 unfold Tg.Hd.fine at hf
 simp only [Bool.and_eq_true,decide_eq_true_eq]at hf
 have ht:=List.all_eq_true.mp hf.1.1.1.2
 constructor
 ·unfold hdrP hline
  show((cutCB (h.1++58::32::esc h.2)).1,plainT (cutCB (h.1++58::32::esc h.2)).2)=h
  rw [cutCB_at (fun hm=>(tok_ne (ht _ hm)).1 rfl)]
  show(h.1,plainT (esc h.2))=h
  rw [plain_esc]
 ·unfold hline
  intro hm
  simp only [List.mem_cons,List.mem_append]at hm
  rcases hm with e|e|e|e|e
  ·revert e;decide
  ·exact(tok_ne (ht _ e)).2.1 rfl
  ·revert e;decide
  ·revert e;decide
  ·exact(esc_clean h.2).2 e
theorem mode_clean {m:List UInt8} (h:modes.contains m=true):(32:UInt8)∉m∧(10:UInt8)∉m:=by
 unfold modes at h
 simp only [List.contains_cons,List.contains_nil,Bool.or_false,Bool.or_eq_true,beq_iff_eq]at h
 rcases h with h|h|h|h<;>(subst h;decide)
theorem wl_free {c:UInt8} (hc:c≠32): ∀ {ws:List (List UInt8)},(∀w∈ws,c∉w)→c∉wl ws
 | [],_=>by simp [wl]
 | [w],h=>by unfold wl;exact h w (by simp)
 |w::v::l,h=>by
  unfold wl
  intro hm
  simp only [List.mem_append,List.mem_cons]at hm
  rcases hm with e|e|e
  ·exact h w (by simp) e
  ·exact hc e
  ·exact wl_free hc (fun x hx=>h x (by simp [hx])) e
structure Lined (e:Ev) (s:List UInt8) (r:List (List UInt8)):Prop where
 sh:shown e=s::r
 ev:eventP s=({ e with hdrs:= [] },r.length)
 hs:r.map hdrP=e.hdrs
 c1:(10:UInt8)∉s
 c2: ∀x∈r,(10:UInt8)∉x
theorem lined {e:Ev} (hg:good e=true): ∃s r,Lined e s r:=by
 obtain⟨kind,id,url,src,mode,media,status,hdrs,body⟩:=e
 unfold good at hg
 simp only [Bool.and_eq_true,decide_eq_true_eq]at hg
 obtain⟨⟨⟨⟨⟨k1,k6⟩,hid⟩,ha⟩,hh⟩,hb⟩:=hg
 have hk:kind=1∨kind=2∨kind=3∨kind=4∨kind=5∨kind=6:=by omega
 have hi: ∀(_:kind≠6),1≤id∧id≤1000000:=fun h=>by
  rw [if_neg h]at hid
  simpa using hid
 have hna: ∀(_:kind≠1),url= []∧src= []∧mode= []∧media=0:=fun h=>by
  rw [if_neg h]at ha
  simp only [Bool.and_eq_true,decide_eq_true_eq]at ha
  exact⟨ha.1.1.1,ha.1.1.2,ha.1.2,ha.2⟩
 have hnh: ∀(_:kind≠2),status=0∧hdrs= []:=fun h=>by
  rw [if_neg h]at hh
  simpa using hh
 have hnb: ∀(_:kind≠3),body= []:=fun h=>by
  rw [if_neg h]at hb
  simpa using hb
 have clean: ∀ {ws:List (List UInt8)},(∀w∈ws,(32:UInt8)∉w∧(10:UInt8)∉w)→ws≠ []→cutAt 32 (wl ws)=ws∧(10:UInt8)∉wl ws:=fun h hne=>⟨cut_wl hne (fun w hw=>(h w hw).1),wl_free (by decide) (fun w hw=>(h w hw).2)⟩
 rcases hk with rfl|rfl|rfl|rfl|rfl|rfl
 ·obtain⟨h1,h2⟩:=hi (by decide)
  obtain⟨rfl,rfl⟩:=hnh (by decide)
  obtain rfl:=hnb (by decide)
  rw [if_pos rfl]at ha
  simp only [Bool.and_eq_true,decide_eq_true_eq]at ha
  obtain⟨⟨_,hm1,hm2⟩,hmo⟩:=ha
  obtain⟨i1,i2,i3⟩:=itoa_num (n:=id) (by omega) (by omega)
  obtain⟨m1,m2,m3⟩:=itoa_num (n:=media) (by omega) (by omega)
  have mc:=mode_clean hmo
  obtain⟨c1,c2⟩:=clean (ws:= [kwAsk,itoa id,itoa media,mode,esc url,esc src]) (by
   intro w hw
   simp only [List.mem_cons,List.not_mem_nil,or_false]at hw
   rcases hw with rfl|rfl|rfl|rfl|rfl|rfl
   ·decide
   ·exact⟨i2,i3⟩
   ·exact⟨m2,m3⟩
   ·exact mc
   ·exact esc_clean _
   ·exact esc_clean _) (by simp)
  refine⟨_,[],rfl,?_,rfl,c2,by simp⟩
  unfold eventP
  simp only [c1]
  simp only [List.getD_cons_zero,List.getD_cons_succ,plain_esc,i1,m1,show kindP kwAsk words 0=1 from rfl,if_true]
  rfl
 ·obtain⟨h1,h2⟩:=hi (by decide)
  obtain⟨rfl,rfl,rfl,rfl⟩:=hna (by decide)
  obtain rfl:=hnb (by decide)
  rw [if_pos rfl]at hh
  simp only [Bool.and_eq_true,decide_eq_true_eq]at hh
  obtain⟨⟨s1,s2⟩,hgd⟩:=hh
  unfold Tg.Hd.good at hgd
  simp only [Bool.and_eq_true,decide_eq_true_eq]at hgd
  obtain⟨hlen,hfine⟩:=hgd
  have hfine:=List.all_eq_true.mp hfine
  obtain⟨i1,i2,i3⟩:=itoa_num (n:=id) (by omega) (by omega)
  obtain⟨t1,t2,t3⟩:=itoa_num (n:=status) (by omega) (by omega)
  obtain⟨l1,l2,l3⟩:=itoa_num (n:=(hdrs.length:Int)) (by omega) (by omega)
  have l1':numP (itoa (hdrs.length:Int))=hdrs.length:=by omega
  obtain⟨c1,c2⟩:=clean (ws:= [kwHead,itoa id,itoa status,itoa (hdrs.length:Int)]) (by
   intro w hw
   simp only [List.mem_cons,List.not_mem_nil,or_false]at hw
   rcases hw with rfl|rfl|rfl|rfl
   ·decide
   ·exact⟨i2,i3⟩
   ·exact⟨t2,t3⟩
   ·exact⟨l2,l3⟩) (by simp)
  refine⟨_,hdrs.map hline,rfl,?_,?_,c2,?_⟩
  ·unfold eventP
   simp only [c1]
   simp only [List.getD_cons_zero,List.getD_cons_succ,i1,t1,l1',List.length_map,show kindP kwHead words 0=2 from rfl,if_true]
   rfl
  ·rw [List.map_map]
   conv=>rhs;rw [←List.map_id hdrs]
   exact List.map_congr_left fun h hm=>(hdr_back (hfine h hm)).1
  ·intro x hx
   obtain⟨h,hm,rfl⟩:=List.mem_map.mp hx
   exact(hdr_back (hfine h hm)).2
 ·obtain⟨h1,h2⟩:=hi (by decide)
  obtain⟨rfl,rfl⟩:=hnh (by decide)
  obtain⟨rfl,rfl,rfl,rfl⟩:=hna (by decide)
  obtain⟨i1,i2,i3⟩:=itoa_num (n:=id) (by omega) (by omega)
  obtain⟨c1,c2⟩:=clean (ws:= [kwChunk,itoa id,esc body]) (by
   intro w hw
   simp only [List.mem_cons,List.not_mem_nil,or_false]at hw
   rcases hw with rfl|rfl|rfl
   ·decide
   ·exact⟨i2,i3⟩
   ·exact esc_clean _) (by simp)
  refine⟨_,[],rfl,?_,rfl,c2,by simp⟩
  unfold eventP
  simp only [c1]
  simp only [List.getD_cons_zero,List.getD_cons_succ,plain_esc,i1,show kindP kwChunk words 0=3 from rfl,if_true]
  rfl
 ·obtain⟨h1,h2⟩:=hi (by decide)
  obtain⟨rfl,rfl⟩:=hnh (by decide)
  obtain⟨rfl,rfl,rfl,rfl⟩:=hna (by decide)
  obtain rfl:=hnb (by decide)
  obtain⟨i1,i2,i3⟩:=itoa_num (n:=id) (by omega) (by omega)
  obtain⟨c1,c2⟩:=clean (ws:= [kwEnd,itoa id]) (by
   intro w hw
   simp only [List.mem_cons,List.not_mem_nil,or_false]at hw
   rcases hw with rfl|rfl
   ·decide
   ·exact⟨i2,i3⟩) (by simp)
  refine⟨_,[],rfl,?_,rfl,c2,by simp⟩
  unfold eventP
  simp only [c1]
  simp only [List.getD_cons_zero,List.getD_cons_succ,i1,show kindP kwEnd words 0=4 from rfl]
  rfl
 ·obtain⟨h1,h2⟩:=hi (by decide)
  obtain⟨rfl,rfl⟩:=hnh (by decide)
  obtain⟨rfl,rfl,rfl,rfl⟩:=hna (by decide)
  obtain rfl:=hnb (by decide)
  obtain⟨i1,i2,i3⟩:=itoa_num (n:=id) (by omega) (by omega)
  obtain⟨c1,c2⟩:=clean (ws:= [kwAbort,itoa id]) (by
   intro w hw
   simp only [List.mem_cons,List.not_mem_nil,or_false]at hw
   rcases hw with rfl|rfl
   ·decide
   ·exact⟨i2,i3⟩) (by simp)
  refine⟨_,[],rfl,?_,rfl,c2,by simp⟩
  unfold eventP
  simp only [c1]
  simp only [List.getD_cons_zero,List.getD_cons_succ,i1,show kindP kwAbort words 0=5 from rfl]
  rfl
 ·rw [if_pos rfl]at hid
  obtain rfl:id=0:=by simpa using hid
  obtain⟨rfl,rfl⟩:=hnh (by decide)
  obtain⟨rfl,rfl,rfl,rfl⟩:=hna (by decide)
  obtain rfl:=hnb (by decide)
  exact⟨kwReset,[],rfl,by decide+kernel,rfl,by decide,by simp⟩
theorem next_lined {e:Ev} {s:List UInt8} {r:List (List UInt8)} (hg:good e=true) (h:Lined e s r) (rest:List (List UInt8)):nextP s (r++rest)=some (e,r.length):=by
 have ht:(r++rest).take r.length=r:=List.take_left
 have he:({ e with hdrs:=e.hdrs } :Ev)=e:=rfl
 unfold nextP
 rw [h.ev]
 simp only [ht,h.hs]
 rw [if_neg (by simp),if_pos ⟨hg,h.sh⟩]
theorem evs_shown: ∀ {l:List Ev},(∀e∈l,good e=true)→evs (l.flatMap shown)=(l,none)
 | [],_=>by rw [List.flatMap_nil];unfold evs;rfl
 |e::l,h=>by
  obtain⟨s,r,hl⟩:=lined (h e (by simp))
  have ih:=evs_shown (l:=l) (fun x hx=>h x (by simp [hx]))
  rw [List.flatMap_cons,hl.sh,List.cons_append]
  unfold evs
  simp only [next_lined (h e (by simp)) hl]
  rw [show(r++l.flatMap shown).drop r.length=l.flatMap shown from List.drop_left,ih]
theorem shown_clean {l:List Ev} (h: ∀e∈l,good e=true): ∀s∈l.flatMap shown,(10:UInt8)∉s:=by
 intro s hs
 obtain⟨e,he,hs⟩:=List.mem_flatMap.mp hs
 obtain⟨s0,r,hl⟩:=lined (h e he)
 rw [hl.sh]at hs
 rcases List.mem_cons.mp hs with rfl|hs
 ·exact hl.c1
 ·exact hl.c2 s hs
theorem set_clean (c:Setup):cutAt 32 (setupT c)= [kwSetup,if c.legacy then kwLegacy else kwOrb,itoa c.look,itoa c.depth,itoa c.table,itoa c.valid]∧(10:UInt8)∉setupT c:=by
 have h: ∀w∈ [kwSetup,if c.legacy then kwLegacy else kwOrb,itoa c.look,itoa c.depth,itoa c.table,itoa c.valid],(32:UInt8)∉w∧(10:UInt8)∉w:=by
  intro w hw
  simp only [List.mem_cons,List.not_mem_nil,or_false]at hw
  rcases hw with rfl|rfl|rfl|rfl|rfl|rfl
  ·decide
  ·split<;>decide
  ·exact itoa_clean _
  ·exact itoa_clean _
  ·exact itoa_clean _
  ·exact itoa_clean _
 exact⟨cut_wl (by simp) (fun w hw=>(h w hw).1),wl_free (by decide) (fun w hw=>(h w hw).2)⟩
theorem settings_back {c:Setup} (h:fineS c=true):settings (setupT c)=some c:=by
 have hc:=(set_clean c).1
 obtain⟨legacy,look,depth,table,valid⟩:=c
 have h':=h
 unfold fineS at h'
 simp only [Bool.and_eq_true,decide_eq_true_eq]at h'
 obtain⟨⟨⟨⟨⟨a1,a2⟩,a3⟩,a4⟩,a5,a6⟩,a7,a8⟩:=h'
 have e:setP (setupT ⟨legacy,look,depth,table,valid⟩)=⟨legacy,look,depth,table,valid⟩:=by
  unfold setP
  rw [hc]
  simp only [List.getD_cons_zero,List.getD_cons_succ,(itoa_num (n:=look) (by omega) (by omega)).1,(itoa_num (n:=depth) (by omega) (by omega)).1,(itoa_num (n:=table) (by omega) (by omega)).1,(itoa_num (n:=valid) (by omega) (by omega)).1]
  cases legacy<;>rfl
 unfold settings
 rw [e,if_pos ⟨h,rfl⟩]
theorem read_print {c:Setup} {l:List Ev} (hc:fineS c=true) (hl: ∀e∈l,good e=true) (hs:(printT c l).length≤4194304):
  readP (printT c l)=if 5000<l.length then(set0,[],0,6)else(c,l,0,0):=by
 have e:cutAt 10 (printT c l)=setupT c::(l.flatMap shown)++ [[]]:=by
  unfold printT
  rw [cut_app _ (set_clean c).2]
  have:=cut_feeds [] (shown_clean hl)
  rw [List.append_nil]at this
  rw [this];rfl
 unfold readP readL
 rw [if_neg (by omega),e,List.dropLast_append_of_ne_nil (by simp)]
 simp only [List.dropLast_singleton,List.append_nil,settings_back hc,evs_shown hl]
 rw [List.getLast?_append]
 simp
theorem next_some {s:List UInt8} {r:List (List UInt8)} {e:Ev} {n:Nat} (h:nextP s r=some (e,n)):n≤r.length∧good e=true∧shown e=s::r.take n∧n=(eventP s).2:=by
 unfold nextP at h
 split at h
 ·cases h
 ·split at h
  ·rename_i h1 h2
   simp only [Option.some.injEq,Prod.mk.injEq]at h
   obtain⟨rfl,rfl⟩:=h
   exact⟨by omega,h2.1,h2.2,rfl⟩
  ·cases h
end Tg.Sc
namespace Go.Proofs.YteeiipildjgdbaaGreatDoor
open Go.Lg
set_option linter.all false
abbrev fcl (t j a b:Nat) (c:Bool):Prop:=fldi Tryz.prog t j=some (a,b,c)
abbrev fcp (t s:Nat) (z:Value):Prop:=sz Tryz.prog t=some s∧zr Tryz.prog t=some z∧lesz Tryz.prog t=some s
abbrev fcq (t:Nat) (z:Value):Prop:=aggB Tryz.prog t=some false∧fcp t 1 z
abbrev fcm (t s:Nat) (z:Value):Prop:=aggB Tryz.prog t=some true∧fcp t s z
abbrev fcr (t s:Nat) (z:Value):Prop:=plcB Tryz.prog t=true∧fcm t s z
@[simp] theorem ft0:fcp 0 1 (.tuple #[]):=by and_intros<;>kernel_rfl
@[simp] theorem ft2:fcq 2 (.int .i64 0):=by and_intros<;>kernel_rfl
@[simp] theorem ft3:fcq 3 (.int .i64 0):=by and_intros<;>kernel_rfl
@[simp] theorem ft4:fcq 4 (.bool false):=by and_intros<;>kernel_rfl
@[simp] theorem ft5:fcq 5 (.int .u8 0):=by and_intros<;>kernel_rfl
@[simp] theorem ft6:fcq 6 (.int .u8 0):=by and_intros<;>kernel_rfl
@[simp] theorem ft7:fcr 7 4 (.agg #[.int .i64 0,.int .i64 0,.bool false,.int .u8 0])∧fcl 7 0 0 1 false∧fcl 7 1 1 1 false∧fcl 7 2 2 1 false∧fcl 7 3 3 1 false:=by delta fcl;and_intros<;>kernel_rfl
@[simp] theorem ft8:fcr 8 4 (.agg #[.int .i64 0,.int .i64 0,.bool false,.int .u8 0])∧fcl 8 0 0 1 false∧fcl 8 1 1 1 false∧fcl 8 2 2 1 false∧fcl 8 3 3 1 false:=by delta fcl;and_intros<;>kernel_rfl
@[simp] theorem ft9:fcq 9 (.string ⟨#[]⟩):=by and_intros<;>kernel_rfl
@[simp] theorem ft10:fcq 10 (.string ⟨#[]⟩):=by and_intros<;>kernel_rfl
@[simp] theorem ft11:fcq 11 (.string ⟨#[]⟩):=by and_intros<;>kernel_rfl
@[simp] theorem ft12:fcq 12 (.int .u64 0):=by and_intros<;>kernel_rfl
@[simp] theorem ft13:fcr 13 2 (.agg #[.string ⟨#[]⟩,.int .u64 0])∧fcl 13 0 0 1 false∧fcl 13 1 1 1 false:=by delta fcl;and_intros<;>kernel_rfl
@[simp] theorem ft14:fcr 14 2 (.agg #[.string ⟨#[]⟩,.int .u64 0])∧fcl 14 0 0 1 false∧fcl 14 1 1 1 false:=by delta fcl;and_intros<;>kernel_rfl
@[simp] theorem ft15:fcq 15 (.pointer none):=by and_intros<;>kernel_rfl
@[simp] theorem ft16:fcq 16 (.pointer none):=by and_intros<;>kernel_rfl
@[simp] theorem ft17:fcq 17 (.pointer none):=by and_intros<;>kernel_rfl
@[simp] theorem ft18:fcr 18 1 (.agg #[.pointer none])∧fcl 18 0 0 1 false:=by delta fcl;and_intros<;>kernel_rfl
@[simp] theorem ft19:fcr 19 1 (.agg #[.pointer none])∧fcl 19 0 0 1 false:=by delta fcl;and_intros<;>kernel_rfl
@[simp] theorem ft21:fcq 21 (.int .i32 0):=by and_intros<;>kernel_rfl
@[simp] theorem ft23:fcp 23 1 (.tuple #[.int .i64 0,.string ⟨#[]⟩,.string ⟨#[]⟩]):=by and_intros<;>kernel_rfl
@[simp] theorem ft25:fcq 25 (.slice none 0 0):=by and_intros<;>kernel_rfl
@[simp] theorem ft27:fcp 27 1 (.tuple #[.slice none 0 0,.bool false]):=by and_intros<;>kernel_rfl
@[simp] theorem ft32:fcq 32 (.slice none 0 0):=by and_intros<;>kernel_rfl
@[simp] theorem ft48:fcq 48 (.int .i64 0):=by and_intros<;>kernel_rfl
@[simp] theorem ft49:fcp 49 1 (.tuple #[.string ⟨#[]⟩,.int .i64 0,.int .i64 0]):=by and_intros<;>kernel_rfl
@[simp] theorem ft51:fcq 51 (.slice none 0 0):=by and_intros<;>kernel_rfl
@[simp] theorem ft52:fcr 52 6 (.agg #[.int .i64 0,.int .i64 0,.int .i64 0,.slice none 0 0,.string ⟨#[]⟩,.string ⟨#[]⟩])∧fcl 52 0 0 1 false∧fcl 52 1 1 1 false∧fcl 52 2 2 1 false∧fcl 52 3 3 1 false∧fcl 52 4 4 1 false∧fcl 52 5 5 1 false:=by delta fcl;and_intros<;>kernel_rfl
@[simp] theorem ft53:fcr 53 6 (.agg #[.int .i64 0,.int .i64 0,.int .i64 0,.slice none 0 0,.string ⟨#[]⟩,.string ⟨#[]⟩])∧fcl 53 0 0 1 false∧fcl 53 1 1 1 false∧fcl 53 2 2 1 false∧fcl 53 3 3 1 false∧fcl 53 4 4 1 false∧fcl 53 5 5 1 false:=by delta fcl;and_intros<;>kernel_rfl
@[simp] theorem ft60:fcq 60 (.int .u64 0):=by and_intros<;>kernel_rfl
@[simp] theorem ft61:fcr 61 3 (.agg #[.bool false,.int .i64 0,.int .i64 0])∧fcl 61 0 0 1 false∧fcl 61 1 1 1 false∧fcl 61 2 2 1 false:=by delta fcl;and_intros<;>kernel_rfl
@[simp] theorem ft62:fcr 62 3 (.agg #[.bool false,.int .i64 0,.int .i64 0])∧fcl 62 0 0 1 false∧fcl 62 1 1 1 false∧fcl 62 2 2 1 false:=by delta fcl;and_intros<;>kernel_rfl
@[simp] theorem ft63:fcr 63 5 (.agg #[.bool false,.int .i64 0,.int .i64 0,.int .i64 0,.int .i64 0])∧fcl 63 0 0 3 true∧fcl 63 1 3 1 false∧fcl 63 2 4 1 false:=by delta fcl;and_intros<;>kernel_rfl
@[simp] theorem ft64:fcr 64 5 (.agg #[.bool false,.int .i64 0,.int .i64 0,.int .i64 0,.int .i64 0])∧fcl 64 0 0 3 true∧fcl 64 1 3 1 false∧fcl 64 2 4 1 false:=by delta fcl;and_intros<;>kernel_rfl
@[simp] theorem ft65:fcq 65 (.slice none 0 0):=by and_intros<;>kernel_rfl
@[simp] theorem ft66:fcp 66 1 (.tuple #[.agg #[.bool false,.int .i64 0,.int .i64 0,.int .i64 0,.int .i64 0],.slice none 0 0,.int .i64 0,.int .i64 0]):=by and_intros<;>kernel_rfl
@[simp] theorem ft68:fcq 68 (.pointer none):=by and_intros<;>kernel_rfl
@[simp] theorem ft69:fcp 69 1 (.tuple #[.pointer none,.int .i64 0]):=by and_intros<;>kernel_rfl
@[simp] theorem ft72:fcr 72 2 (.agg #[.string ⟨#[]⟩,.string ⟨#[]⟩])∧fcl 72 0 0 1 false∧fcl 72 1 1 1 false:=by delta fcl;and_intros<;>kernel_rfl
@[simp] theorem ft73:fcr 73 2 (.agg #[.string ⟨#[]⟩,.string ⟨#[]⟩])∧fcl 73 0 0 1 false∧fcl 73 1 1 1 false:=by delta fcl;and_intros<;>kernel_rfl
@[simp] theorem ft78:fcp 78 1 (.tuple #[.agg #[.bool false,.int .i64 0,.int .i64 0,.int .i64 0,.int .i64 0],.bool false]):=by and_intros<;>kernel_rfl
@[simp] theorem ft80:fcr 80 2 (.agg #[.int .i64 0,.slice none 0 0])∧fcl 80 0 0 1 false∧fcl 80 1 1 1 false:=by delta fcl;and_intros<;>kernel_rfl
@[simp] theorem ft81:fcr 81 2 (.agg #[.int .i64 0,.slice none 0 0])∧fcl 81 0 0 1 false∧fcl 81 1 1 1 false:=by delta fcl;and_intros<;>kernel_rfl
@[simp] theorem ft82:fcr 82 9 (.agg #[.int .i64 0,.int .i64 0,.string ⟨#[]⟩,.string ⟨#[]⟩,.string ⟨#[]⟩,.int .i64 0,.int .i64 0,.slice none 0 0,.string ⟨#[]⟩])∧fcl 82 0 0 1 false∧fcl 82 1 1 1 false∧fcl 82 2 2 1 false∧fcl 82 3 3 1 false∧fcl 82 4 4 1 false∧fcl 82 5 5 1 false∧fcl 82 6 6 2 true∧fcl 82 7 8 1 false:=by delta fcl;and_intros<;>kernel_rfl
@[simp] theorem ft83:fcr 83 9 (.agg #[.int .i64 0,.int .i64 0,.string ⟨#[]⟩,.string ⟨#[]⟩,.string ⟨#[]⟩,.int .i64 0,.int .i64 0,.slice none 0 0,.string ⟨#[]⟩])∧fcl 83 0 0 1 false∧fcl 83 1 1 1 false∧fcl 83 2 2 1 false∧fcl 83 3 3 1 false∧fcl 83 4 4 1 false∧fcl 83 5 5 1 false∧fcl 83 6 6 2 true∧fcl 83 7 8 1 false:=by delta fcl;and_intros<;>kernel_rfl
@[simp] theorem ft84:fcp 84 1 (.tuple #[.agg #[.int .i64 0,.int .i64 0,.string ⟨#[]⟩,.string ⟨#[]⟩,.string ⟨#[]⟩,.int .i64 0,.int .i64 0,.slice none 0 0,.string ⟨#[]⟩],.int .i64 0,.bool false]):=by and_intros<;>kernel_rfl
@[simp] theorem ft87:fcq 87 (.pointer none):=by and_intros<;>kernel_rfl
@[simp] theorem ft88:fcp 88 1 (.tuple #[.pointer none,.int .i64 0]):=by and_intros<;>kernel_rfl
@[simp] theorem ft90:fcq 90 (.map none):=by and_intros<;>kernel_rfl
@[simp] theorem ft91:fcr 91 10 (.agg #[.bool false,.int .i64 0,.int .i64 0,.int .i64 0,.int .i64 0,.map none,.pointer none,.int .i64 0,.int .i64 0,.int .i64 0])∧fcl 91 0 0 5 true∧fcl 91 1 5 1 false∧fcl 91 2 6 1 false∧fcl 91 3 7 1 false∧fcl 91 4 8 1 false∧fcl 91 5 9 1 false:=by delta fcl;and_intros<;>kernel_rfl
@[simp] theorem ft92:fcr 92 10 (.agg #[.bool false,.int .i64 0,.int .i64 0,.int .i64 0,.int .i64 0,.map none,.pointer none,.int .i64 0,.int .i64 0,.int .i64 0])∧fcl 92 0 0 5 true∧fcl 92 1 5 1 false∧fcl 92 2 6 1 false∧fcl 92 3 7 1 false∧fcl 92 4 8 1 false∧fcl 92 5 9 1 false:=by delta fcl;and_intros<;>kernel_rfl
@[simp] theorem ft93:fcq 93 (.pointer none):=by and_intros<;>kernel_rfl
@[simp] theorem ft94:fcq 94 (.slice none 0 0):=by and_intros<;>kernel_rfl
@[simp] theorem ft95:fcr 95 2 (.agg #[.pointer none,.slice none 0 0])∧fcl 95 0 0 1 false∧fcl 95 1 1 1 false:=by delta fcl;and_intros<;>kernel_rfl
@[simp] theorem ft96:fcr 96 2 (.agg #[.pointer none,.slice none 0 0])∧fcl 96 0 0 1 false∧fcl 96 1 1 1 false:=by delta fcl;and_intros<;>kernel_rfl
@[simp] theorem ft98:fcq 98 (.nilIface):=by and_intros<;>kernel_rfl
@[simp] theorem ft99:fcp 99 1 (.tuple #[.int .i64 0,.nilIface]):=by and_intros<;>kernel_rfl
@[simp] theorem ft108:fcq 108 (.pointer none):=by and_intros<;>kernel_rfl
@[simp] theorem ft109:fcr 109 1 (.agg #[.slice none 0 0])∧fcl 109 0 0 1 false:=by delta fcl;and_intros<;>kernel_rfl
@[simp] theorem ft110:fcr 110 1 (.agg #[.slice none 0 0])∧fcl 110 0 0 1 false:=by delta fcl;and_intros<;>kernel_rfl
@[simp] theorem ft113:fcp 113 1 (.tuple #[.agg #[.int .i64 0,.int .i64 0,.string ⟨#[]⟩,.string ⟨#[]⟩,.string ⟨#[]⟩,.int .i64 0,.int .i64 0,.slice none 0 0,.string ⟨#[]⟩],.int .i64 0]):=by and_intros<;>kernel_rfl
@[simp] theorem ft115:fcp 115 1 (.tuple #[.string ⟨#[]⟩,.string ⟨#[]⟩,.bool false]):=by and_intros<;>kernel_rfl
@[simp] theorem ft117:fcp 117 1 (.tuple #[.string ⟨#[]⟩,.bool false]):=by and_intros<;>kernel_rfl
@[simp] theorem ft122:fcq 122 (.map none):=by and_intros<;>kernel_rfl
@[simp] theorem ft123:fcr 123 4 (.agg #[.map none,.int .i64 0,.int .i64 0,.int .i64 0])∧fcl 123 0 0 1 false∧fcl 123 1 1 1 false∧fcl 123 2 2 1 false∧fcl 123 3 3 1 false:=by delta fcl;and_intros<;>kernel_rfl
@[simp] theorem ft124:fcr 124 4 (.agg #[.map none,.int .i64 0,.int .i64 0,.int .i64 0])∧fcl 124 0 0 1 false∧fcl 124 1 1 1 false∧fcl 124 2 2 1 false∧fcl 124 3 3 1 false:=by delta fcl;and_intros<;>kernel_rfl
@[simp] theorem ft130:fcq 130 (.pointer none):=by and_intros<;>kernel_rfl
@[simp] theorem ft132:fcp 132 1 (.tuple #[.int .i32 0,.int .i64 0]):=by and_intros<;>kernel_rfl
@[simp] theorem ft135:fcm 135 24 (.agg #[.int .u8 0,.int .u8 0,.int .u8 0,.int .u8 0,.int .u8 0,.int .u8 0,.int .u8 0,.int .u8 0,.int .u8 0,.int .u8 0,.int .u8 0,.int .u8 0,.int .u8 0,.int .u8 0,.int .u8 0,.int .u8 0,.int .u8 0,.int .u8 0,.int .u8 0,.int .u8 0,.int .u8 0,.int .u8 0,.int .u8 0,.int .u8 0]):=by and_intros<;>kernel_rfl
@[simp] theorem ft138:fcp 138 1 (.tuple #[.slice none 0 0,.string ⟨#[]⟩]):=by and_intros<;>kernel_rfl
@[simp] theorem ft140:fcp 140 1 (.tuple #[.int .i64 0,.int .i64 0]):=by and_intros<;>kernel_rfl
@[simp] theorem ft142:fcp 142 1 (.tuple #[.int .i64 0,.bool false]):=by and_intros<;>kernel_rfl
@[simp] theorem ft144:fcq 144 (.int .u64 0):=by and_intros<;>kernel_rfl
@[simp] theorem ft157:fcm 157 20 (.agg #[.int .u64 0,.int .u64 0,.int .u64 0,.int .u64 0,.int .u64 0,.int .u64 0,.int .u64 0,.int .u64 0,.int .u64 0,.int .u64 0,.int .u64 0,.int .u64 0,.int .u64 0,.int .u64 0,.int .u64 0,.int .u64 0,.int .u64 0,.int .u64 0,.int .u64 0,.int .u64 0]):=by and_intros<;>kernel_rfl
@[simp] theorem ft158:fcq 158 (.int .u32 0):=by and_intros<;>kernel_rfl
@[simp] theorem ft159:fcm 159 65 (.agg #[.int .u8 0,.int .u8 0,.int .u8 0,.int .u8 0,.int .u8 0,.int .u8 0,.int .u8 0,.int .u8 0,.int .u8 0,.int .u8 0,.int .u8 0,.int .u8 0,.int .u8 0,.int .u8 0,.int .u8 0,.int .u8 0,.int .u8 0,.int .u8 0,.int .u8 0,.int .u8 0,.int .u8 0,.int .u8 0,.int .u8 0,.int .u8 0,.int .u8 0,.int .u8 0,.int .u8 0,.int .u8 0,.int .u8 0,.int .u8 0,.int .u8 0,.int .u8 0,.int .u8 0,.int .u8 0,.int .u8 0,.int .u8 0,.int .u8 0,.int .u8 0,.int .u8 0,.int .u8 0,.int .u8 0,.int .u8 0,.int .u8 0,.int .u8 0,.int .u8 0,.int .u8 0,.int .u8 0,.int .u8 0,.int .u8 0,.int .u8 0,.int .u8 0,.int .u8 0,.int .u8 0,.int .u8 0,.int .u8 0,.int .u8 0,.int .u8 0,.int .u8 0,.int .u8 0,.int .u8 0,.int .u8 0,.int .u8 0,.int .u8 0,.int .u8 0,.int .u8 0]):=by and_intros<;>kernel_rfl
@[simp] theorem ft165:fcr 165 4 (.agg #[.string ⟨#[]⟩,.bool false,.bool false,.int .i64 0])∧fcl 165 0 0 1 false∧fcl 165 1 1 1 false∧fcl 165 2 2 1 false∧fcl 165 3 3 1 false:=by delta fcl;and_intros<;>kernel_rfl
@[simp] theorem ft166:fcr 166 4 (.agg #[.string ⟨#[]⟩,.bool false,.bool false,.int .i64 0])∧fcl 166 0 0 1 false∧fcl 166 1 1 1 false∧fcl 166 2 2 1 false∧fcl 166 3 3 1 false:=by delta fcl;and_intros<;>kernel_rfl
@[simp] theorem ft167:fcp 167 1 (.tuple #[.agg #[.string ⟨#[]⟩,.bool false,.bool false,.int .i64 0],.bool false]):=by and_intros<;>kernel_rfl
@[simp] theorem ft169:fcq 169 (.pointer none):=by and_intros<;>kernel_rfl
@[simp] theorem ft170:fcp 170 1 (.tuple #[.pointer none,.int .i64 0]):=by and_intros<;>kernel_rfl
@[simp] theorem ft172:fcq 172 (.slice none 0 0):=by and_intros<;>kernel_rfl
@[simp] theorem ft174:fcp 174 1 (.tuple #[.slice none 0 0,.int .i64 0]):=by and_intros<;>kernel_rfl
@[simp] theorem ft176:fcr 176 4 (.agg #[.int .i64 0,.string ⟨#[]⟩,.int .i64 0,.bool false])∧fcl 176 0 0 1 false∧fcl 176 1 1 1 false∧fcl 176 2 2 1 false∧fcl 176 3 3 1 false:=by delta fcl;and_intros<;>kernel_rfl
@[simp] theorem ft177:fcr 177 4 (.agg #[.int .i64 0,.string ⟨#[]⟩,.int .i64 0,.bool false])∧fcl 177 0 0 1 false∧fcl 177 1 1 1 false∧fcl 177 2 2 1 false∧fcl 177 3 3 1 false:=by delta fcl;and_intros<;>kernel_rfl
@[simp] theorem ft178:fcp 178 1 (.tuple #[.agg #[.int .i64 0,.string ⟨#[]⟩,.int .i64 0,.bool false],.bool false]):=by and_intros<;>kernel_rfl
@[simp] theorem ft182:fcr 182 10 (.agg #[.bool false,.int .i64 0,.int .i64 0,.string ⟨#[]⟩,.bool false,.bool false,.int .i64 0,.int .i64 0,.slice none 0 0,.bool false])∧fcl 182 0 0 3 true∧fcl 182 1 3 4 true∧fcl 182 2 7 2 true∧fcl 182 3 9 1 false:=by delta fcl;and_intros<;>kernel_rfl
@[simp] theorem ft183:fcr 183 10 (.agg #[.bool false,.int .i64 0,.int .i64 0,.string ⟨#[]⟩,.bool false,.bool false,.int .i64 0,.int .i64 0,.slice none 0 0,.bool false])∧fcl 183 0 0 3 true∧fcl 183 1 3 4 true∧fcl 183 2 7 2 true∧fcl 183 3 9 1 false:=by delta fcl;and_intros<;>kernel_rfl
@[simp] theorem ft185:sz Tryz.prog 185=some 256∧aggB Tryz.prog 185=some true∧zr Tryz.prog 185=some (.agg #[.int .u8 0,.int .u8 0,.int .u8 0,.int .u8 0,.int .u8 0,.int .u8 0,.int .u8 0,.int .u8 0,.int .u8 0,.int .u8 0,.int .u8 0,.int .u8 0,.int .u8 0,.int .u8 0,.int .u8 0,.int .u8 0,.int .u8 0,.int .u8 0,.int .u8 0,.int .u8 0,.int .u8 0,.int .u8 0,.int .u8 0,.int .u8 0,.int .u8 0,.int .u8 0,.int .u8 0,.int .u8 0,.int .u8 0,.int .u8 0,.int .u8 0,.int .u8 0,.int .u8 0,.int .u8 0,.int .u8 0,.int .u8 0,.int .u8 0,.int .u8 0,.int .u8 0,.int .u8 0,.int .u8 0,.int .u8 0,.int .u8 0,.int .u8 0,.int .u8 0,.int .u8 0,.int .u8 0,.int .u8 0,.int .u8 0,.int .u8 0,.int .u8 0,.int .u8 0,.int .u8 0,.int .u8 0,.int .u8 0,.int .u8 0,.int .u8 0,.int .u8 0,.int .u8 0,.int .u8 0,.int .u8 0,.int .u8 0,.int .u8 0,.int .u8 0,.int .u8 0,.int .u8 0,.int .u8 0,.int .u8 0,.int .u8 0,.int .u8 0,.int .u8 0,.int .u8 0,.int .u8 0,.int .u8 0,.int .u8 0,.int .u8 0,.int .u8 0,.int .u8 0,.int .u8 0,.int .u8 0,.int .u8 0,.int .u8 0,.int .u8 0,.int .u8 0,.int .u8 0,.int .u8 0,.int .u8 0,.int .u8 0,.int .u8 0,.int .u8 0,.int .u8 0,.int .u8 0,.int .u8 0,.int .u8 0,.int .u8 0,.int .u8 0,.int .u8 0,.int .u8 0,.int .u8 0,.int .u8 0,.int .u8 0,.int .u8 0,.int .u8 0,.int .u8 0,.int .u8 0,.int .u8 0,.int .u8 0,.int .u8 0,.int .u8 0,.int .u8 0,.int .u8 0,.int .u8 0,.int .u8 0,.int .u8 0,.int .u8 0,.int .u8 0,.int .u8 0,.int .u8 0,.int .u8 0,.int .u8 0,.int .u8 0,.int .u8 0,.int .u8 0,.int .u8 0,.int .u8 0,.int .u8 0,.int .u8 0,.int .u8 0,.int .u8 0,.int .u8 0,.int .u8 0,.int .u8 0,.int .u8 0,.int .u8 0,.int .u8 0,.int .u8 0,.int .u8 0,.int .u8 0,.int .u8 0,.int .u8 0,.int .u8 0,.int .u8 0,.int .u8 0,.int .u8 0,.int .u8 0,.int .u8 0,.int .u8 0,.int .u8 0,.int .u8 0,.int .u8 0,.int .u8 0,.int .u8 0,.int .u8 0,.int .u8 0,.int .u8 0,.int .u8 0,.int .u8 0,.int .u8 0,.int .u8 0,.int .u8 0,.int .u8 0,.int .u8 0,.int .u8 0,.int .u8 0,.int .u8 0,.int .u8 0,.int .u8 0,.int .u8 0,.int .u8 0,.int .u8 0,.int .u8 0,.int .u8 0,.int .u8 0,.int .u8 0,.int .u8 0,.int .u8 0,.int .u8 0,.int .u8 0,.int .u8 0,.int .u8 0,.int .u8 0,.int .u8 0,.int .u8 0,.int .u8 0,.int .u8 0,.int .u8 0,.int .u8 0,.int .u8 0,.int .u8 0,.int .u8 0,.int .u8 0,.int .u8 0,.int .u8 0,.int .u8 0,.int .u8 0,.int .u8 0,.int .u8 0,.int .u8 0,.int .u8 0,.int .u8 0,.int .u8 0,.int .u8 0,.int .u8 0,.int .u8 0,.int .u8 0,.int .u8 0,.int .u8 0,.int .u8 0,.int .u8 0,.int .u8 0,.int .u8 0,.int .u8 0,.int .u8 0,.int .u8 0,.int .u8 0,.int .u8 0,.int .u8 0,.int .u8 0,.int .u8 0,.int .u8 0,.int .u8 0,.int .u8 0,.int .u8 0,.int .u8 0,.int .u8 0,.int .u8 0,.int .u8 0,.int .u8 0,.int .u8 0,.int .u8 0,.int .u8 0,.int .u8 0,.int .u8 0,.int .u8 0,.int .u8 0,.int .u8 0,.int .u8 0,.int .u8 0,.int .u8 0,.int .u8 0,.int .u8 0,.int .u8 0,.int .u8 0,.int .u8 0,.int .u8 0,.int .u8 0,.int .u8 0,.int .u8 0,.int .u8 0,.int .u8 0,.int .u8 0,.int .u8 0,.int .u8 0,.int .u8 0,.int .u8 0,.int .u8 0])∧lesz Tryz.prog 185=some 256:=by and_intros<;>kernel_rfl
@[simp] theorem ft189:fcr 189 2 (.agg #[.int .u8 0,.int .u8 0])∧fcl 189 0 0 1 false∧fcl 189 1 1 1 false:=by delta fcl;and_intros<;>kernel_rfl
@[simp] theorem ft190:fcr 190 2 (.agg #[.int .u8 0,.int .u8 0])∧fcl 190 0 0 1 false∧fcl 190 1 1 1 false:=by delta fcl;and_intros<;>kernel_rfl
@[simp] theorem ft191:fcm 191 32 (.agg #[.int .u8 0,.int .u8 0,.int .u8 0,.int .u8 0,.int .u8 0,.int .u8 0,.int .u8 0,.int .u8 0,.int .u8 0,.int .u8 0,.int .u8 0,.int .u8 0,.int .u8 0,.int .u8 0,.int .u8 0,.int .u8 0,.int .u8 0,.int .u8 0,.int .u8 0,.int .u8 0,.int .u8 0,.int .u8 0,.int .u8 0,.int .u8 0,.int .u8 0,.int .u8 0,.int .u8 0,.int .u8 0,.int .u8 0,.int .u8 0,.int .u8 0,.int .u8 0]):=by and_intros<;>kernel_rfl
@[simp] theorem ft192:fcp 192 1 (.tuple #[.int .u32 0,.int .u32 0]):=by and_intros<;>kernel_rfl
@[simp] theorem ft198:fcr 198 2 (.agg #[.int .i64 0,.int .i64 0])∧fcl 198 0 0 1 false∧fcl 198 1 1 1 false:=by delta fcl;and_intros<;>kernel_rfl
@[simp] theorem ft199:fcr 199 2 (.agg #[.int .i64 0,.int .i64 0])∧fcl 199 0 0 1 false∧fcl 199 1 1 1 false:=by delta fcl;and_intros<;>kernel_rfl
@[simp] theorem ft200:fcp 200 1 (.tuple #[.agg #[.string ⟨#[]⟩,.bool false,.bool false,.int .i64 0],.agg #[.int .i64 0,.int .i64 0]]):=by and_intros<;>kernel_rfl
@[simp] theorem ft204:fcq 204 (.pointer none):=by and_intros<;>kernel_rfl
@[simp] theorem ft205:fcp 205 1 (.tuple #[.pointer none,.int .i64 0]):=by and_intros<;>kernel_rfl
@[simp] theorem ft208:fcq 208 (.pointer none):=by and_intros<;>kernel_rfl
@[simp] theorem ft209:fcp 209 1 (.tuple #[.pointer none,.int .i64 0]):=by and_intros<;>kernel_rfl
@[simp] theorem ft211:fcr 211 21 (.agg #[.bool false,.int .i64 0,.int .i64 0,.string ⟨#[]⟩,.bool false,.bool false,.int .i64 0,.int .i64 0,.slice none 0 0,.bool false,.int .i64 0,.pointer none,.pointer none,.int .i64 0,.string ⟨#[]⟩,.int .i64 0,.bool false,.bool false,.int .i64 0,.int .i64 0,.bool false])∧fcl 211 0 0 10 true∧fcl 211 1 10 1 false∧fcl 211 2 11 1 false∧fcl 211 3 12 1 false∧fcl 211 4 13 4 true∧fcl 211 5 17 1 false∧fcl 211 6 18 1 false∧fcl 211 7 19 1 false∧fcl 211 8 20 1 false:=by delta fcl;and_intros<;>kernel_rfl
@[simp] theorem ft212:fcr 212 21 (.agg #[.bool false,.int .i64 0,.int .i64 0,.string ⟨#[]⟩,.bool false,.bool false,.int .i64 0,.int .i64 0,.slice none 0 0,.bool false,.int .i64 0,.pointer none,.pointer none,.int .i64 0,.string ⟨#[]⟩,.int .i64 0,.bool false,.bool false,.int .i64 0,.int .i64 0,.bool false])∧fcl 212 0 0 10 true∧fcl 212 1 10 1 false∧fcl 212 2 11 1 false∧fcl 212 3 12 1 false∧fcl 212 4 13 4 true∧fcl 212 5 17 1 false∧fcl 212 6 18 1 false∧fcl 212 7 19 1 false∧fcl 212 8 20 1 false:=by delta fcl;and_intros<;>kernel_rfl
@[simp] theorem ft215:fcq 215 (.nilFunc):=by and_intros<;>kernel_rfl
@[simp] theorem ft221:fcq 221 (.slice none 0 0):=by and_intros<;>kernel_rfl
@[simp] theorem ft222:fcr 222 2 (.agg #[.int .i64 0,.int .i64 0])∧fcl 222 0 0 1 false∧fcl 222 1 1 1 false:=by delta fcl;and_intros<;>kernel_rfl
@[simp] theorem ft223:fcr 223 2 (.agg #[.int .i64 0,.int .i64 0])∧fcl 223 0 0 1 false∧fcl 223 1 1 1 false:=by delta fcl;and_intros<;>kernel_rfl
@[simp] theorem ft225:fcq 225 (.pointer none):=by and_intros<;>kernel_rfl
@[simp] theorem ft226:fcm 226 32 (.agg #[.int .u8 0,.int .u8 0,.int .u8 0,.int .u8 0,.int .u8 0,.int .u8 0,.int .u8 0,.int .u8 0,.int .u8 0,.int .u8 0,.int .u8 0,.int .u8 0,.int .u8 0,.int .u8 0,.int .u8 0,.int .u8 0,.int .u8 0,.int .u8 0,.int .u8 0,.int .u8 0,.int .u8 0,.int .u8 0,.int .u8 0,.int .u8 0,.int .u8 0,.int .u8 0,.int .u8 0,.int .u8 0,.int .u8 0,.int .u8 0,.int .u8 0,.int .u8 0]):=by and_intros<;>kernel_rfl
@[simp] theorem ft227:fcm 227 64 (.agg #[.int .u8 0,.int .u8 0,.int .u8 0,.int .u8 0,.int .u8 0,.int .u8 0,.int .u8 0,.int .u8 0,.int .u8 0,.int .u8 0,.int .u8 0,.int .u8 0,.int .u8 0,.int .u8 0,.int .u8 0,.int .u8 0,.int .u8 0,.int .u8 0,.int .u8 0,.int .u8 0,.int .u8 0,.int .u8 0,.int .u8 0,.int .u8 0,.int .u8 0,.int .u8 0,.int .u8 0,.int .u8 0,.int .u8 0,.int .u8 0,.int .u8 0,.int .u8 0,.int .u8 0,.int .u8 0,.int .u8 0,.int .u8 0,.int .u8 0,.int .u8 0,.int .u8 0,.int .u8 0,.int .u8 0,.int .u8 0,.int .u8 0,.int .u8 0,.int .u8 0,.int .u8 0,.int .u8 0,.int .u8 0,.int .u8 0,.int .u8 0,.int .u8 0,.int .u8 0,.int .u8 0,.int .u8 0,.int .u8 0,.int .u8 0,.int .u8 0,.int .u8 0,.int .u8 0,.int .u8 0,.int .u8 0,.int .u8 0,.int .u8 0,.int .u8 0]):=by and_intros<;>kernel_rfl
@[simp] theorem ft230:fcp 230 1 (.tuple #[.agg #[.int .i64 0,.int .i64 0],.bool false]):=by and_intros<;>kernel_rfl
@[simp] theorem ft232:fcr 232 5 (.agg #[.string ⟨#[]⟩,.string ⟨#[]⟩,.int .i64 0,.string ⟨#[]⟩,.string ⟨#[]⟩])∧fcl 232 0 0 1 false∧fcl 232 1 1 1 false∧fcl 232 2 2 1 false∧fcl 232 3 3 1 false∧fcl 232 4 4 1 false:=by delta fcl;and_intros<;>kernel_rfl
@[simp] theorem ft233:fcr 233 5 (.agg #[.string ⟨#[]⟩,.string ⟨#[]⟩,.int .i64 0,.string ⟨#[]⟩,.string ⟨#[]⟩])∧fcl 233 0 0 1 false∧fcl 233 1 1 1 false∧fcl 233 2 2 1 false∧fcl 233 3 3 1 false∧fcl 233 4 4 1 false:=by delta fcl;and_intros<;>kernel_rfl
@[simp] theorem ft235:fcp 235 1 (.tuple #[.agg #[.string ⟨#[]⟩,.string ⟨#[]⟩,.int .i64 0,.string ⟨#[]⟩,.string ⟨#[]⟩],.int .i64 0]):=by and_intros<;>kernel_rfl
@[simp] theorem ft240:fcq 240 (.pointer none):=by and_intros<;>kernel_rfl
@[simp] theorem ft241:fcp 241 1 (.tuple #[.pointer none,.int .i64 0]):=by and_intros<;>kernel_rfl
@[simp] theorem ft243:fcr 243 4 (.agg #[.pointer none,.int .i64 0,.int .i64 0,.int .i64 0])∧fcl 243 0 0 1 false∧fcl 243 1 1 1 false∧fcl 243 2 2 1 false∧fcl 243 3 3 1 false:=by delta fcl;and_intros<;>kernel_rfl
@[simp] theorem ft244:fcr 244 4 (.agg #[.pointer none,.int .i64 0,.int .i64 0,.int .i64 0])∧fcl 244 0 0 1 false∧fcl 244 1 1 1 false∧fcl 244 2 2 1 false∧fcl 244 3 3 1 false:=by delta fcl;and_intros<;>kernel_rfl
@[simp] theorem ft248:fcq 248 (.slice none 0 0):=by and_intros<;>kernel_rfl
@[simp] theorem ft249:fcq 249 (.slice none 0 0):=by and_intros<;>kernel_rfl
@[simp] theorem ft250:fcr 250 3 (.agg #[.slice none 0 0,.slice none 0 0,.int .i64 0])∧fcl 250 0 0 1 false∧fcl 250 1 1 1 false∧fcl 250 2 2 1 false:=by delta fcl;and_intros<;>kernel_rfl
@[simp] theorem ft251:fcr 251 3 (.agg #[.slice none 0 0,.slice none 0 0,.int .i64 0])∧fcl 251 0 0 1 false∧fcl 251 1 1 1 false∧fcl 251 2 2 1 false:=by delta fcl;and_intros<;>kernel_rfl
@[simp] theorem ft252:fcq 252 (.int .u16 0):=by and_intros<;>kernel_rfl
@[simp] theorem ft253:fcr 253 3 (.agg #[.int .u16 0,.int .u16 0,.int .u16 0])∧fcl 253 0 0 1 false∧fcl 253 1 1 1 false∧fcl 253 2 2 1 false:=by delta fcl;and_intros<;>kernel_rfl
@[simp] theorem ft254:fcr 254 3 (.agg #[.int .u16 0,.int .u16 0,.int .u16 0])∧fcl 254 0 0 1 false∧fcl 254 1 1 1 false∧fcl 254 2 2 1 false:=by delta fcl;and_intros<;>kernel_rfl
@[simp] theorem ft256:fcr 256 3 (.agg #[.int .u32 0,.int .u32 0,.int .u32 0])∧fcl 256 0 0 1 false∧fcl 256 1 1 1 false∧fcl 256 2 2 1 false:=by delta fcl;and_intros<;>kernel_rfl
@[simp] theorem ft257:fcr 257 3 (.agg #[.int .u32 0,.int .u32 0,.int .u32 0])∧fcl 257 0 0 1 false∧fcl 257 1 1 1 false∧fcl 257 2 2 1 false:=by delta fcl;and_intros<;>kernel_rfl
@[simp] theorem ft265:fcr 265 3 (.agg #[.string ⟨#[]⟩,.string ⟨#[]⟩,.int .i64 0])∧fcl 265 0 0 1 false∧fcl 265 1 1 1 false∧fcl 265 2 2 1 false:=by delta fcl;and_intros<;>kernel_rfl
@[simp] theorem ft266:fcr 266 3 (.agg #[.string ⟨#[]⟩,.string ⟨#[]⟩,.int .i64 0])∧fcl 266 0 0 1 false∧fcl 266 1 1 1 false∧fcl 266 2 2 1 false:=by delta fcl;and_intros<;>kernel_rfl
@[simp] theorem ft268:fcr 268 5 (.agg #[.slice none 0 0,.int .i64 0,.int .i64 0,.int .i64 0,.int .i64 0])∧fcl 268 0 0 1 false∧fcl 268 1 1 1 false∧fcl 268 2 2 1 false∧fcl 268 3 3 1 false∧fcl 268 4 4 1 false:=by delta fcl;and_intros<;>kernel_rfl
@[simp] theorem ft269:fcr 269 5 (.agg #[.slice none 0 0,.int .i64 0,.int .i64 0,.int .i64 0,.int .i64 0])∧fcl 269 0 0 1 false∧fcl 269 1 1 1 false∧fcl 269 2 2 1 false∧fcl 269 3 3 1 false∧fcl 269 4 4 1 false:=by delta fcl;and_intros<;>kernel_rfl
@[simp] theorem ft270:fcq 270 (.pointer none):=by and_intros<;>kernel_rfl
@[simp] theorem ft271:fcp 271 1 (.tuple #[.pointer none,.int .i64 0]):=by and_intros<;>kernel_rfl
@[simp] theorem ft273:fcq 273 (.pointer none):=by and_intros<;>kernel_rfl
@[simp] theorem ft274:fcp 274 1 (.tuple #[.pointer none,.int .i64 0]):=by and_intros<;>kernel_rfl
@[simp] theorem ft276:fcr 276 7 (.agg #[.pointer none,.pointer none,.int .i64 0,.string ⟨#[]⟩,.int .i64 0,.int .i64 0,.bool false])∧fcl 276 0 0 1 false∧fcl 276 1 1 1 false∧fcl 276 2 2 1 false∧fcl 276 3 3 1 false∧fcl 276 4 4 1 false∧fcl 276 5 5 1 false∧fcl 276 6 6 1 false:=by delta fcl;and_intros<;>kernel_rfl
@[simp] theorem ft277:fcr 277 7 (.agg #[.pointer none,.pointer none,.int .i64 0,.string ⟨#[]⟩,.int .i64 0,.int .i64 0,.bool false])∧fcl 277 0 0 1 false∧fcl 277 1 1 1 false∧fcl 277 2 2 1 false∧fcl 277 3 3 1 false∧fcl 277 4 4 1 false∧fcl 277 5 5 1 false∧fcl 277 6 6 1 false:=by delta fcl;and_intros<;>kernel_rfl
@[simp] theorem ft283:fcq 283 (.pointer none):=by and_intros<;>kernel_rfl
@[simp] theorem ft284:fcq 284 (.pointer none):=by and_intros<;>kernel_rfl
@[simp] theorem ft286:fcp 286 1 (.tuple #[.agg #[.string ⟨#[]⟩,.string ⟨#[]⟩,.int .i64 0,.string ⟨#[]⟩,.string ⟨#[]⟩],.string ⟨#[]⟩,.bool false]):=by and_intros<;>kernel_rfl
@[simp] theorem ft290:fcr 290 10 (.agg #[.int .i64 0,.slice none 0 0,.int .i64 0,.bool false,.string ⟨#[]⟩,.int .i64 0,.bool false,.int .i64 0,.int .i64 0,.int .i64 0])∧fcl 290 0 0 1 false∧fcl 290 1 1 1 false∧fcl 290 2 2 1 false∧fcl 290 3 3 1 false∧fcl 290 4 4 1 false∧fcl 290 5 5 1 false∧fcl 290 6 6 1 false∧fcl 290 7 7 1 false∧fcl 290 8 8 1 false∧fcl 290 9 9 1 false:=by delta fcl;and_intros<;>kernel_rfl
@[simp] theorem ft291:fcr 291 10 (.agg #[.int .i64 0,.slice none 0 0,.int .i64 0,.bool false,.string ⟨#[]⟩,.int .i64 0,.bool false,.int .i64 0,.int .i64 0,.int .i64 0])∧fcl 291 0 0 1 false∧fcl 291 1 1 1 false∧fcl 291 2 2 1 false∧fcl 291 3 3 1 false∧fcl 291 4 4 1 false∧fcl 291 5 5 1 false∧fcl 291 6 6 1 false∧fcl 291 7 7 1 false∧fcl 291 8 8 1 false∧fcl 291 9 9 1 false:=by delta fcl;and_intros<;>kernel_rfl
@[simp] theorem ft292:fcr 292 13 (.agg #[.int .i64 0,.slice none 0 0,.int .i64 0,.int .u8 0,.bool false,.string ⟨#[]⟩,.int .i64 0,.bool false,.bool false,.int .i64 0,.int .i64 0,.int .i64 0,.int .i64 0])∧fcl 292 0 0 1 false∧fcl 292 1 1 1 false∧fcl 292 2 2 1 false∧fcl 292 3 3 1 false∧fcl 292 4 4 1 false∧fcl 292 5 5 1 false∧fcl 292 6 6 1 false∧fcl 292 7 7 1 false∧fcl 292 8 8 1 false∧fcl 292 9 9 1 false∧fcl 292 10 10 1 false∧fcl 292 11 11 1 false∧fcl 292 12 12 1 false:=by delta fcl;and_intros<;>kernel_rfl
@[simp] theorem ft293:fcr 293 13 (.agg #[.int .i64 0,.slice none 0 0,.int .i64 0,.int .u8 0,.bool false,.string ⟨#[]⟩,.int .i64 0,.bool false,.bool false,.int .i64 0,.int .i64 0,.int .i64 0,.int .i64 0])∧fcl 293 0 0 1 false∧fcl 293 1 1 1 false∧fcl 293 2 2 1 false∧fcl 293 3 3 1 false∧fcl 293 4 4 1 false∧fcl 293 5 5 1 false∧fcl 293 6 6 1 false∧fcl 293 7 7 1 false∧fcl 293 8 8 1 false∧fcl 293 9 9 1 false∧fcl 293 10 10 1 false∧fcl 293 11 11 1 false∧fcl 293 12 12 1 false:=by delta fcl;and_intros<;>kernel_rfl
@[simp] theorem ft295:fcq 295 (.int .i64 0):=by and_intros<;>kernel_rfl
@[simp] theorem ft296:fcp 296 1 (.tuple #[.int .i64 0,.int .i64 0]):=by and_intros<;>kernel_rfl
@[simp] theorem ft306:fcp 306 1 (.tuple #[.string ⟨#[]⟩,.int .i64 0]):=by and_intros<;>kernel_rfl
@[simp] theorem ft309:sz Tryz.prog 309=some 256∧aggB Tryz.prog 309=some true∧zr Tryz.prog 309=some (.agg #[.bool false,.bool false,.bool false,.bool false,.bool false,.bool false,.bool false,.bool false,.bool false,.bool false,.bool false,.bool false,.bool false,.bool false,.bool false,.bool false,.bool false,.bool false,.bool false,.bool false,.bool false,.bool false,.bool false,.bool false,.bool false,.bool false,.bool false,.bool false,.bool false,.bool false,.bool false,.bool false,.bool false,.bool false,.bool false,.bool false,.bool false,.bool false,.bool false,.bool false,.bool false,.bool false,.bool false,.bool false,.bool false,.bool false,.bool false,.bool false,.bool false,.bool false,.bool false,.bool false,.bool false,.bool false,.bool false,.bool false,.bool false,.bool false,.bool false,.bool false,.bool false,.bool false,.bool false,.bool false,.bool false,.bool false,.bool false,.bool false,.bool false,.bool false,.bool false,.bool false,.bool false,.bool false,.bool false,.bool false,.bool false,.bool false,.bool false,.bool false,.bool false,.bool false,.bool false,.bool false,.bool false,.bool false,.bool false,.bool false,.bool false,.bool false,.bool false,.bool false,.bool false,.bool false,.bool false,.bool false,.bool false,.bool false,.bool false,.bool false,.bool false,.bool false,.bool false,.bool false,.bool false,.bool false,.bool false,.bool false,.bool false,.bool false,.bool false,.bool false,.bool false,.bool false,.bool false,.bool false,.bool false,.bool false,.bool false,.bool false,.bool false,.bool false,.bool false,.bool false,.bool false,.bool false,.bool false,.bool false,.bool false,.bool false,.bool false,.bool false,.bool false,.bool false,.bool false,.bool false,.bool false,.bool false,.bool false,.bool false,.bool false,.bool false,.bool false,.bool false,.bool false,.bool false,.bool false,.bool false,.bool false,.bool false,.bool false,.bool false,.bool false,.bool false,.bool false,.bool false,.bool false,.bool false,.bool false,.bool false,.bool false,.bool false,.bool false,.bool false,.bool false,.bool false,.bool false,.bool false,.bool false,.bool false,.bool false,.bool false,.bool false,.bool false,.bool false,.bool false,.bool false,.bool false,.bool false,.bool false,.bool false,.bool false,.bool false,.bool false,.bool false,.bool false,.bool false,.bool false,.bool false,.bool false,.bool false,.bool false,.bool false,.bool false,.bool false,.bool false,.bool false,.bool false,.bool false,.bool false,.bool false,.bool false,.bool false,.bool false,.bool false,.bool false,.bool false,.bool false,.bool false,.bool false,.bool false,.bool false,.bool false,.bool false,.bool false,.bool false,.bool false,.bool false,.bool false,.bool false,.bool false,.bool false,.bool false,.bool false,.bool false,.bool false,.bool false,.bool false,.bool false,.bool false,.bool false,.bool false,.bool false,.bool false,.bool false,.bool false,.bool false,.bool false,.bool false,.bool false,.bool false,.bool false,.bool false,.bool false,.bool false,.bool false,.bool false,.bool false,.bool false,.bool false,.bool false,.bool false,.bool false,.bool false,.bool false,.bool false])∧lesz Tryz.prog 309=some 256:=by and_intros<;>kernel_rfl
@[simp] theorem ft310:sz Tryz.prog 310=some 256∧aggB Tryz.prog 310=some true∧zr Tryz.prog 310=some (.agg #[.bool false,.bool false,.bool false,.bool false,.bool false,.bool false,.bool false,.bool false,.bool false,.bool false,.bool false,.bool false,.bool false,.bool false,.bool false,.bool false,.bool false,.bool false,.bool false,.bool false,.bool false,.bool false,.bool false,.bool false,.bool false,.bool false,.bool false,.bool false,.bool false,.bool false,.bool false,.bool false,.bool false,.bool false,.bool false,.bool false,.bool false,.bool false,.bool false,.bool false,.bool false,.bool false,.bool false,.bool false,.bool false,.bool false,.bool false,.bool false,.bool false,.bool false,.bool false,.bool false,.bool false,.bool false,.bool false,.bool false,.bool false,.bool false,.bool false,.bool false,.bool false,.bool false,.bool false,.bool false,.bool false,.bool false,.bool false,.bool false,.bool false,.bool false,.bool false,.bool false,.bool false,.bool false,.bool false,.bool false,.bool false,.bool false,.bool false,.bool false,.bool false,.bool false,.bool false,.bool false,.bool false,.bool false,.bool false,.bool false,.bool false,.bool false,.bool false,.bool false,.bool false,.bool false,.bool false,.bool false,.bool false,.bool false,.bool false,.bool false,.bool false,.bool false,.bool false,.bool false,.bool false,.bool false,.bool false,.bool false,.bool false,.bool false,.bool false,.bool false,.bool false,.bool false,.bool false,.bool false,.bool false,.bool false,.bool false,.bool false,.bool false,.bool false,.bool false,.bool false,.bool false,.bool false,.bool false,.bool false,.bool false,.bool false,.bool false,.bool false,.bool false,.bool false,.bool false,.bool false,.bool false,.bool false,.bool false,.bool false,.bool false,.bool false,.bool false,.bool false,.bool false,.bool false,.bool false,.bool false,.bool false,.bool false,.bool false,.bool false,.bool false,.bool false,.bool false,.bool false,.bool false,.bool false,.bool false,.bool false,.bool false,.bool false,.bool false,.bool false,.bool false,.bool false,.bool false,.bool false,.bool false,.bool false,.bool false,.bool false,.bool false,.bool false,.bool false,.bool false,.bool false,.bool false,.bool false,.bool false,.bool false,.bool false,.bool false,.bool false,.bool false,.bool false,.bool false,.bool false,.bool false,.bool false,.bool false,.bool false,.bool false,.bool false,.bool false,.bool false,.bool false,.bool false,.bool false,.bool false,.bool false,.bool false,.bool false,.bool false,.bool false,.bool false,.bool false,.bool false,.bool false,.bool false,.bool false,.bool false,.bool false,.bool false,.bool false,.bool false,.bool false,.bool false,.bool false,.bool false,.bool false,.bool false,.bool false,.bool false,.bool false,.bool false,.bool false,.bool false,.bool false,.bool false,.bool false,.bool false,.bool false,.bool false,.bool false,.bool false,.bool false,.bool false,.bool false,.bool false,.bool false,.bool false,.bool false,.bool false,.bool false,.bool false,.bool false,.bool false,.bool false,.bool false,.bool false,.bool false,.bool false,.bool false,.bool false,.bool false])∧lesz Tryz.prog 310=some 256:=by and_intros<;>kernel_rfl
@[simp] theorem ft311:sz Tryz.prog 311=some 1∧zr Tryz.prog 311=some (.tuple #[.agg #[.bool false,.bool false,.bool false,.bool false,.bool false,.bool false,.bool false,.bool false,.bool false,.bool false,.bool false,.bool false,.bool false,.bool false,.bool false,.bool false,.bool false,.bool false,.bool false,.bool false,.bool false,.bool false,.bool false,.bool false,.bool false,.bool false,.bool false,.bool false,.bool false,.bool false,.bool false,.bool false,.bool false,.bool false,.bool false,.bool false,.bool false,.bool false,.bool false,.bool false,.bool false,.bool false,.bool false,.bool false,.bool false,.bool false,.bool false,.bool false,.bool false,.bool false,.bool false,.bool false,.bool false,.bool false,.bool false,.bool false,.bool false,.bool false,.bool false,.bool false,.bool false,.bool false,.bool false,.bool false,.bool false,.bool false,.bool false,.bool false,.bool false,.bool false,.bool false,.bool false,.bool false,.bool false,.bool false,.bool false,.bool false,.bool false,.bool false,.bool false,.bool false,.bool false,.bool false,.bool false,.bool false,.bool false,.bool false,.bool false,.bool false,.bool false,.bool false,.bool false,.bool false,.bool false,.bool false,.bool false,.bool false,.bool false,.bool false,.bool false,.bool false,.bool false,.bool false,.bool false,.bool false,.bool false,.bool false,.bool false,.bool false,.bool false,.bool false,.bool false,.bool false,.bool false,.bool false,.bool false,.bool false,.bool false,.bool false,.bool false,.bool false,.bool false,.bool false,.bool false,.bool false,.bool false,.bool false,.bool false,.bool false,.bool false,.bool false,.bool false,.bool false,.bool false,.bool false,.bool false,.bool false,.bool false,.bool false,.bool false,.bool false,.bool false,.bool false,.bool false,.bool false,.bool false,.bool false,.bool false,.bool false,.bool false,.bool false,.bool false,.bool false,.bool false,.bool false,.bool false,.bool false,.bool false,.bool false,.bool false,.bool false,.bool false,.bool false,.bool false,.bool false,.bool false,.bool false,.bool false,.bool false,.bool false,.bool false,.bool false,.bool false,.bool false,.bool false,.bool false,.bool false,.bool false,.bool false,.bool false,.bool false,.bool false,.bool false,.bool false,.bool false,.bool false,.bool false,.bool false,.bool false,.bool false,.bool false,.bool false,.bool false,.bool false,.bool false,.bool false,.bool false,.bool false,.bool false,.bool false,.bool false,.bool false,.bool false,.bool false,.bool false,.bool false,.bool false,.bool false,.bool false,.bool false,.bool false,.bool false,.bool false,.bool false,.bool false,.bool false,.bool false,.bool false,.bool false,.bool false,.bool false,.bool false,.bool false,.bool false,.bool false,.bool false,.bool false,.bool false,.bool false,.bool false,.bool false,.bool false,.bool false,.bool false,.bool false,.bool false,.bool false,.bool false,.bool false,.bool false,.bool false,.bool false,.bool false,.bool false,.bool false,.bool false,.bool false,.bool false,.bool false,.bool false,.bool false,.bool false,.bool false,.bool false,.bool false,.bool false],.bool false])∧lesz Tryz.prog 311=some 1:=by and_intros<;>kernel_rfl
@[simp] theorem ft313:fcp 313 1 (.tuple #[.string ⟨#[]⟩,.string ⟨#[]⟩]):=by and_intros<;>kernel_rfl
@[simp] theorem ft315:fcq 315 (.int .u64 0):=by and_intros<;>kernel_rfl
@[simp] theorem ft319:fcq 319 (.pointer none):=by and_intros<;>kernel_rfl
@[simp] theorem ft322:fcq 322 (.pointer none):=by and_intros<;>kernel_rfl
@[simp] theorem ft323:fcq 323 (.pointer none):=by and_intros<;>kernel_rfl
@[simp] theorem ft324:fcp 324 1 (.tuple #[.int .i64 0,.int .i64 0]):=by and_intros<;>kernel_rfl
@[simp] theorem ft333:fcq 333 (.slice none 0 0):=by and_intros<;>kernel_rfl
@[simp] theorem ft334:fcr 334 3 (.agg #[.string ⟨#[]⟩,.string ⟨#[]⟩,.slice none 0 0])∧fcl 334 0 0 1 false∧fcl 334 1 1 1 false∧fcl 334 2 2 1 false:=by delta fcl;and_intros<;>kernel_rfl
@[simp] theorem ft335:fcr 335 3 (.agg #[.string ⟨#[]⟩,.string ⟨#[]⟩,.slice none 0 0])∧fcl 335 0 0 1 false∧fcl 335 1 1 1 false∧fcl 335 2 2 1 false:=by delta fcl;and_intros<;>kernel_rfl
@[simp] theorem ft336:fcr 336 6 (.agg #[.string ⟨#[]⟩,.string ⟨#[]⟩,.slice none 0 0,.bool false,.bool false,.bool false])∧fcl 336 0 0 3 true∧fcl 336 1 3 1 false∧fcl 336 2 4 1 false∧fcl 336 3 5 1 false:=by delta fcl;and_intros<;>kernel_rfl
@[simp] theorem ft337:fcr 337 6 (.agg #[.string ⟨#[]⟩,.string ⟨#[]⟩,.slice none 0 0,.bool false,.bool false,.bool false])∧fcl 337 0 0 3 true∧fcl 337 1 3 1 false∧fcl 337 2 4 1 false∧fcl 337 3 5 1 false:=by delta fcl;and_intros<;>kernel_rfl
@[simp] theorem ft345:fcp 345 1 (.tuple #[.int .i64 0,.string ⟨#[]⟩]):=by and_intros<;>kernel_rfl
@[simp] theorem ft349:fcp 349 1 (.tuple #[.agg #[.string ⟨#[]⟩,.string ⟨#[]⟩,.slice none 0 0],.bool false]):=by and_intros<;>kernel_rfl
@[simp] theorem ft355:fcr 355 3 (.agg #[.int .i64 0,.int .i64 0,.int .i64 0])∧fcl 355 0 0 1 false∧fcl 355 1 1 1 false∧fcl 355 2 2 1 false:=by delta fcl;and_intros<;>kernel_rfl
@[simp] theorem ft356:fcr 356 3 (.agg #[.int .i64 0,.int .i64 0,.int .i64 0])∧fcl 356 0 0 1 false∧fcl 356 1 1 1 false∧fcl 356 2 2 1 false:=by delta fcl;and_intros<;>kernel_rfl
@[simp] theorem ft357:fcp 357 1 (.tuple #[.agg #[.int .i64 0,.int .i64 0,.int .i64 0],.bool false]):=by and_intros<;>kernel_rfl
@[simp] theorem ft361:fcp 361 1 (.tuple #[.agg #[.string ⟨#[]⟩,.string ⟨#[]⟩,.slice none 0 0],.int .i64 0]):=by and_intros<;>kernel_rfl
@[simp] theorem ft366:fcp 366 1 (.tuple #[.agg #[.int .i64 0,.int .i64 0,.int .i64 0],.int .i64 0]):=by and_intros<;>kernel_rfl
@[simp] theorem ft369:fcq 369 (.pointer none):=by and_intros<;>kernel_rfl
@[simp] theorem ft380:fcr 380 1 (.agg #[.pointer none])∧fcl 380 0 0 1 false:=by delta fcl;and_intros<;>kernel_rfl
@[simp] theorem ft381:fcr 381 1 (.agg #[.pointer none])∧fcl 381 0 0 1 false:=by delta fcl;and_intros<;>kernel_rfl
@[simp] theorem ft386:fcr 386 4 (.agg #[.string ⟨#[]⟩,.string ⟨#[]⟩,.string ⟨#[]⟩,.string ⟨#[]⟩])∧fcl 386 0 0 1 false∧fcl 386 1 1 1 false∧fcl 386 2 2 1 false∧fcl 386 3 3 1 false:=by delta fcl;and_intros<;>kernel_rfl
@[simp] theorem ft387:fcr 387 4 (.agg #[.string ⟨#[]⟩,.string ⟨#[]⟩,.string ⟨#[]⟩,.string ⟨#[]⟩])∧fcl 387 0 0 1 false∧fcl 387 1 1 1 false∧fcl 387 2 2 1 false∧fcl 387 3 3 1 false:=by delta fcl;and_intros<;>kernel_rfl
@[simp] theorem ft390:fcr 390 2 (.agg #[.string ⟨#[]⟩,.int .i64 0])∧fcl 390 0 0 1 false∧fcl 390 1 1 1 false:=by delta fcl;and_intros<;>kernel_rfl
@[simp] theorem ft391:fcr 391 2 (.agg #[.string ⟨#[]⟩,.int .i64 0])∧fcl 391 0 0 1 false∧fcl 391 1 1 1 false:=by delta fcl;and_intros<;>kernel_rfl
@[simp] theorem ft393:fcq 393 (.slice none 0 0):=by and_intros<;>kernel_rfl
@[simp] theorem ft395:fcp 395 1 (.tuple #[.agg #[.string ⟨#[]⟩,.string ⟨#[]⟩,.slice none 0 0],.string ⟨#[]⟩]):=by and_intros<;>kernel_rfl
@[simp] theorem ft398:fcp 398 1 (.tuple #[.int .u8 0,.bool false]):=by and_intros<;>kernel_rfl
@[simp] theorem ft410:fcp 410 1 (.tuple #[.int .u64 0,.int .u64 0]):=by and_intros<;>kernel_rfl
@[simp] theorem ft412:fcr 412 2 (.agg #[.string ⟨#[]⟩,.string ⟨#[]⟩])∧fcl 412 0 0 1 false∧fcl 412 1 1 1 false:=by delta fcl;and_intros<;>kernel_rfl
@[simp] theorem ft413:fcp 413 1 (.tuple #[.agg #[.string ⟨#[]⟩,.string ⟨#[]⟩],.bool false]):=by and_intros<;>kernel_rfl
@[simp] theorem ft418:fcp 418 1 (.tuple #[.int .u64 0,.int .u64 0]):=by and_intros<;>kernel_rfl
@[simp] theorem ft422:fcq 422 (.slice none 0 0):=by and_intros<;>kernel_rfl
@[simp] theorem ft428:fcr 428 5 (.agg #[.int .i64 0,.int .i64 0,.int .i64 0,.int .i64 0,.bool false])∧fcl 428 0 0 1 false∧fcl 428 1 1 1 false∧fcl 428 2 2 1 false∧fcl 428 3 3 1 false∧fcl 428 4 4 1 false:=by delta fcl;and_intros<;>kernel_rfl
@[simp] theorem ft429:fcr 429 5 (.agg #[.int .i64 0,.int .i64 0,.int .i64 0,.int .i64 0,.bool false])∧fcl 429 0 0 1 false∧fcl 429 1 1 1 false∧fcl 429 2 2 1 false∧fcl 429 3 3 1 false∧fcl 429 4 4 1 false:=by delta fcl;and_intros<;>kernel_rfl
@[simp] theorem ft430:fcp 430 1 (.tuple #[.agg #[.int .i64 0,.int .i64 0,.int .i64 0,.int .i64 0,.bool false],.int .i64 0,.bool false]):=by and_intros<;>kernel_rfl
@[simp] theorem ft432:fcp 432 1 (.tuple #[.agg #[.int .i64 0,.int .i64 0,.int .i64 0,.int .i64 0,.bool false],.bool false]):=by and_intros<;>kernel_rfl
@[simp] theorem ft438:fcq 438 (.nilFunc):=by and_intros<;>kernel_rfl
@[simp] theorem ft444:fcp 444 1 (.tuple #[.int .u32 0,.agg #[.int .i64 0,.int .i64 0]]):=by and_intros<;>kernel_rfl
@[simp] theorem ft449:fcr 449 4 (.agg #[.pointer none,.pointer none,.pointer none,.string ⟨#[]⟩])∧fcl 449 0 0 1 false∧fcl 449 1 1 1 false∧fcl 449 2 2 1 false∧fcl 449 3 3 1 false:=by delta fcl;and_intros<;>kernel_rfl
@[simp] theorem ft450:fcr 450 4 (.agg #[.pointer none,.pointer none,.pointer none,.string ⟨#[]⟩])∧fcl 450 0 0 1 false∧fcl 450 1 1 1 false∧fcl 450 2 2 1 false∧fcl 450 3 3 1 false:=by delta fcl;and_intros<;>kernel_rfl
@[simp] theorem ft451:sz Tryz.prog 451=some 0∧aggB Tryz.prog 451=some true∧zr Tryz.prog 451=some (.agg #[]):=by and_intros<;>kernel_rfl
@[simp] theorem ft452:plcB Tryz.prog 452=true∧fcl 452 0 0 0 true∧sz Tryz.prog 452=some 0∧aggB Tryz.prog 452=some true∧zr Tryz.prog 452=some (.agg #[]):=by delta fcl;and_intros<;>kernel_rfl
@[simp] theorem ft453:plcB Tryz.prog 453=true∧fcl 453 0 0 0 true∧sz Tryz.prog 453=some 0∧aggB Tryz.prog 453=some true∧zr Tryz.prog 453=some (.agg #[]):=by delta fcl;and_intros<;>kernel_rfl
@[simp] theorem ft454:fcq 454 (.int .u8 0):=by and_intros<;>kernel_rfl
@[simp] theorem ft455:fcq 455 (.int .u8 0):=by and_intros<;>kernel_rfl
@[simp] theorem ft457:fcq 457 (.int .i32 0):=by and_intros<;>kernel_rfl
@[simp] theorem ft458:fcq 458 (.int .i32 0):=by and_intros<;>kernel_rfl
@[simp] theorem ft459:fcr 459 11 (.agg #[.int .u64 0,.int .u64 0,.int .u32 0,.int .u8 0,.int .u8 0,.int .u8 0,.int .u8 0,.nilFunc,.pointer none,.int .i32 0,.int .i32 0])∧fcl 459 0 0 1 false∧fcl 459 1 1 1 false∧fcl 459 2 2 1 false∧fcl 459 3 3 1 false∧fcl 459 4 4 1 false∧fcl 459 5 5 1 false∧fcl 459 6 6 1 false∧fcl 459 7 7 1 false∧fcl 459 8 8 1 false∧fcl 459 9 9 1 false∧fcl 459 10 10 1 false:=by delta fcl;and_intros<;>kernel_rfl
@[simp] theorem ft460:fcr 460 11 (.agg #[.int .u64 0,.int .u64 0,.int .u32 0,.int .u8 0,.int .u8 0,.int .u8 0,.int .u8 0,.nilFunc,.pointer none,.int .i32 0,.int .i32 0])∧fcl 460 0 0 1 false∧fcl 460 1 1 1 false∧fcl 460 2 2 1 false∧fcl 460 3 3 1 false∧fcl 460 4 4 1 false∧fcl 460 5 5 1 false∧fcl 460 6 6 1 false∧fcl 460 7 7 1 false∧fcl 460 8 8 1 false∧fcl 460 9 9 1 false∧fcl 460 10 10 1 false:=by delta fcl;and_intros<;>kernel_rfl
section
open Go.Proofs.Tryz
attribute [simp] underlying0 underlying1 underlying2 underlying3 underlying4 underlying5 underlying6 underlying9 underlying10 underlying11 underlying12 underlying15 underlying16 underlying17 underlying20 underlying21 underlying22 underlying23 underlying24 underlying25 underlying26 underlying27 underlying28 underlying29 underlying30 underlying31 underlying32 underlying33 underlying34 underlying35 underlying36 underlying37 underlying38 underlying39 underlying40 underlying41 underlying42 underlying43 underlying44 underlying45
attribute [simp] underlying46 underlying47 underlying48 underlying49 underlying50 underlying51 underlying54 underlying55 underlying56 underlying57 underlying58 underlying59 underlying60 underlying65 underlying66 underlying67 underlying68 underlying69 underlying70 underlying71 underlying74 underlying75 underlying76 underlying77 underlying78 underlying79 underlying84 underlying85 underlying86 underlying87 underlying88 underlying89 underlying90 underlying93 underlying94 underlying97 underlying98 underlying99 underlying100 underlying101
attribute [simp] underlying102 underlying103 underlying104 underlying105 underlying106 underlying107 underlying108 underlying111 underlying112 underlying113 underlying114 underlying115 underlying116 underlying117 underlying118 underlying119 underlying120 underlying121 underlying122 underlying125 underlying126 underlying127 underlying128 underlying129 underlying130 underlying131 underlying132 underlying133 underlying134 underlying135 underlying136 underlying137 underlying138 underlying139 underlying140 underlying141 underlying142 underlying143 underlying144 underlying145
attribute [simp] underlying146 underlying147 underlying148 underlying149 underlying150 underlying151 underlying152 underlying153 underlying154 underlying155 underlying156 underlying157 underlying158 underlying159 underlying160 underlying161 underlying162 underlying163 underlying164 underlying167 underlying168 underlying169 underlying170 underlying171 underlying172 underlying173 underlying174 underlying175 underlying178 underlying179 underlying180 underlying181 underlying184 underlying185 underlying186 underlying187 underlying188 underlying191 underlying192 underlying193
attribute [simp] underlying194 underlying195 underlying196 underlying197 underlying200 underlying201 underlying202 underlying203 underlying204 underlying205 underlying206 underlying207 underlying208 underlying209 underlying210 underlying213 underlying214 underlying215 underlying216 underlying217 underlying218 underlying219 underlying220 underlying221 underlying224 underlying225 underlying226 underlying227 underlying228 underlying229 underlying230 underlying231 underlying234 underlying235 underlying236 underlying237 underlying238 underlying239 underlying240 underlying241
attribute [simp] underlying242 underlying245 underlying246 underlying247 underlying248 underlying249 underlying252 underlying255 underlying258 underlying259 underlying260 underlying261 underlying262 underlying263 underlying264 underlying267 underlying270 underlying271 underlying272 underlying273 underlying274 underlying275 underlying278 underlying279 underlying280 underlying281 underlying282 underlying283 underlying284 underlying285 underlying286 underlying287 underlying288 underlying289 underlying294 underlying295 underlying296 underlying297 underlying298 underlying299
attribute [simp] underlying300 underlying301 underlying302 underlying303 underlying304 underlying305 underlying306 underlying307 underlying308 underlying309 underlying310 underlying311 underlying312 underlying313 underlying314 underlying315 underlying316 underlying317 underlying318 underlying319 underlying320 underlying321 underlying322 underlying323 underlying324 underlying325 underlying326 underlying327 underlying328 underlying329 underlying330 underlying331 underlying332 underlying333 underlying338 underlying339 underlying340 underlying341 underlying342 underlying343
attribute [simp] underlying344 underlying345 underlying346 underlying347 underlying348 underlying349 underlying350 underlying351 underlying352 underlying353 underlying354 underlying357 underlying358 underlying359 underlying360 underlying361 underlying362 underlying363 underlying364 underlying365 underlying366 underlying367 underlying368 underlying369 underlying370 underlying371 underlying372 underlying373 underlying374 underlying375 underlying376 underlying377 underlying378 underlying379 underlying382 underlying383 underlying384 underlying385 underlying388 underlying389
attribute [simp] underlying392 underlying393 underlying394 underlying395 underlying396 underlying397 underlying398 underlying399 underlying400 underlying401 underlying402 underlying403 underlying404 underlying405 underlying406 underlying407 underlying408 underlying409 underlying410 underlying411 underlying413 underlying414 underlying415 underlying416 underlying417 underlying418 underlying419 underlying420 underlying421 underlying422 underlying423 underlying424 underlying425 underlying426 underlying427 underlying430 underlying431 underlying432 underlying433 underlying434
attribute [simp] underlying435 underlying436 underlying437 underlying438 underlying439 underlying440 underlying441 underlying442 underlying443 underlying444 underlying445 underlying446 underlying447 underlying448 underlying451 underlying454 underlying455 underlying456 underlying457 underlying458 results4 ntmps4 results5 ntmps5
attribute [simp] results11 ntmps11 results12 ntmps12 results13 ntmps13 results14 ntmps14 results15 ntmps15 results16 ntmps16 results17 ntmps17 results18 ntmps18 results19 ntmps19 results22 ntmps22 results23 ntmps23 results26 ntmps26 results29 ntmps29
attribute [simp] results30 ntmps30 results31 ntmps31 results32 ntmps32 results33 ntmps33 results34 ntmps34 results35 ntmps35 results36 ntmps36 results37 ntmps37 results38 ntmps38 results40 ntmps40 results41 ntmps41 results42 ntmps42 results43 ntmps43 results44 ntmps44 results45 ntmps45 results46 ntmps46 results47 ntmps47 results48 ntmps48 results49 ntmps49
attribute [simp] results50 ntmps50 results51 ntmps51 results52 ntmps52 results53 ntmps53 results54 ntmps54 results55 ntmps55 results56 ntmps56 results57 ntmps57 results58 ntmps58 results59 ntmps59 results60 ntmps60 results61 ntmps61 results62 ntmps62 results63 ntmps63 results64 ntmps64 results65 ntmps65 results66 ntmps66 results67 ntmps67 results68 ntmps68 results69 ntmps69
attribute [simp] results70 ntmps70 results71 ntmps71 results72 ntmps72 results73 ntmps73 results74 ntmps74 results75 ntmps75 results76 ntmps76 results77 ntmps77 results78 ntmps78 results79 ntmps79 results80 ntmps80 results81 ntmps81 results82 ntmps82 results83 ntmps83 results84 ntmps84 results85 ntmps85 results86 ntmps86 results87 ntmps87 results88 ntmps88 results89 ntmps89
attribute [simp] results90 ntmps90 results91 ntmps91 results92 ntmps92 results93 ntmps93 results94 ntmps94 results95 ntmps95 results96 ntmps96 results97 ntmps97 results98 ntmps98 results99 ntmps99 results100 ntmps100 results101 ntmps101 results104 ntmps104 results105 ntmps105 results106 ntmps106 results107 ntmps107 results108 ntmps108 results109 ntmps109
attribute [simp] results110 ntmps110 results111 ntmps111 results112 ntmps112 results113 ntmps113 results114 ntmps114 results115 ntmps115 results116 ntmps116 results117 ntmps117 results118 ntmps118 results119 ntmps119 results120 ntmps120 results121 ntmps121 results122 ntmps122 results123 ntmps123
attribute [simp] results135 ntmps135 results136 ntmps136 results137 ntmps137 results138 ntmps138 results139 ntmps139 results140 ntmps140 results141 ntmps141 results142 ntmps142 results143 ntmps143 results144 ntmps144 results145 ntmps145
attribute [simp] results163 ntmps163 results164 ntmps164 results165 ntmps165 results166 ntmps166 results167 ntmps167 results168 ntmps168
attribute [simp] results192 ntmps192 results193 ntmps193 results194 ntmps194 results195 ntmps195 results196 ntmps196 results197 ntmps197 results198 ntmps198 results199 ntmps199 results205 ntmps205
attribute [simp] results220 ntmps220 results221 ntmps221 results222 ntmps222 results223 ntmps223 results224 ntmps224 results225 ntmps225 results229 ntmps229
attribute [simp] results230 ntmps230 results231 ntmps231 results232 ntmps232 results233 ntmps233
attribute [simp] results255 ntmps255 results256 ntmps256 results257 ntmps257 results258 ntmps258 results259 ntmps259 results260 ntmps260 results263 ntmps263 results264 ntmps264 results265 ntmps265
attribute [simp] results282 ntmps282 results283 ntmps283 results284 ntmps284
attribute [simp] results298 ntmps298 results299 ntmps299
attribute [simp] results449 ntmps449
attribute [simp] results469 ntmps469
attribute [simp] results470 ntmps470 results480 ntmps480 results481 ntmps481
attribute [simp] results509 ntmps509
attribute [simp] results521 ntmps521
end
theorem mixed:Tryz.prog.follows .mixedOrders=true:=by kernel_rfl
end Go.Proofs.YteeiipildjgdbaaGreatDoor
namespace Go.Lg
open Go.Tg Go.RowKit
section
variable {P:Program} {H H':LH} {v x:Value} {xs new:List Value} {e t:TypeId} {N n m s:Nat} {b:LB}
def RowN (N:Nat) (H:LH) (e:TypeId) (s:Nat) (v:Value) (n:Nat) (xs:List Value):Prop:=
 xs.length=n*s∧((v=.slice none 0 0∧n=0)∨ ∃k c rest,v=sl k n c∧N≤k∧k<H.n∧H.get k=some ⟨xs++rest,e,true⟩∧n≤c∧(xs++rest).length=c*s)
theorem RowN.nil:RowN N H e s (.slice none 0 0) 0 []:=⟨by simp,.inl ⟨rfl,rfl⟩⟩
theorem RowN.lt (h:RowN N H e s v n xs):xs.length=n*s:=h.1
theorem RowN.len (h:RowN N H e s v n xs) (hu:P.underlying t=some (.slice e)):lbuiltin P .len [t] [v] H'=some (.int .i64 n,H'):=by
 rcases h.2 with⟨rfl,rfl⟩|⟨k,c,rest,rfl,_⟩
 ·exact lbuiltin_len_slice hu
 ·exact lbuiltin_len_slice hu
theorem RowN.cell (h:RowN N H e s v n xs):cellB v=true:=by
 rcases h.2 with⟨rfl,rfl⟩|⟨k,c,rest,rfl,_⟩<;>simp
theorem RowN.keep (h:RowN N H e s v n xs) (hn:H.n≤H'.n) (hk: ∀k,N≤k→ ¬offRow v k→k<H.n→H'.get k=H.get k):RowN N H' e s v n xs:=by
 refine⟨h.1,?_⟩
 rcases h.2 with⟨rfl,rfl⟩|⟨k,c,rest,rfl,h1,h2,h3,h4,h5⟩
 ·exact .inl ⟨rfl,rfl⟩
 ·exact .inr ⟨k,c,rest,rfl,h1,by omega,by rw [hk k h1 (fun h=>h _ _ rfl) h2];exact h3,h4,h5⟩
theorem RowN.off_of_elem (h:RowN N H e s v n xs) {l:Nat} (hl:H.get l=some b) (hne:b.elem≠e):offRow v l:=by
 rcases h.2 with⟨rfl,rfl⟩|⟨k,c,rest,rfl,_,_,h2,_⟩
 ·exact off_nil
 ·intro n c h
  injection h with h
  injection h with h
  injection h with h
  subst h
  rw [h2]at hl
  injection hl with hl
  subst hl
  exact hne rfl
theorem RowN.off_ge (h:RowN N H e s v n xs) {l:Nat} (hl:H.n≤l):offRow v l:=by
 rcases h.2 with⟨rfl,rfl⟩|⟨k,c,rest,rfl,_,h1,_⟩
 ·exact off_nil
 ·intro n c h
  injection h with h
  injection h with h
  injection h with h
  omega
theorem RowN.off_lt (h:RowN N H e s v n xs) {l:Nat} (hl:l<N):offRow v l:=by
 rcases h.2 with⟨rfl,rfl⟩|⟨k,c,rest,rfl,h1,_⟩
 ·exact off_nil
 ·intro n c h
  injection h with h
  injection h with h
  injection h with h
  omega
def Full (v:Value):Prop:= ∀k n c,v=sl k n c→c=n
theorem full_new {k n:Nat} :Full (sl k n n):=fun k' n' c' h=>by
 injection h with _ h1 h2
 omega
structure Kept (H H':LH) (v v':Value):Prop where
 le:H.n≤H'.n
 get: ∀k,k<H.n→offRow v k→H'.get k=H.get k
 off: ∀k,k<H.n→offRow v k→offRow v' k
 base:H'.base=H.base
 ng:H'.ng=H.ng
theorem RowN.app (h:RowN N H e s v n xs) (hu:P.underlying t=some (.slice e)) (hs:lesz P e=some s) (hc:new.all cellB=true) (hl:new.length=m*s) (hm:n+m≤maxElems) (hN:N≤H.n) (hf:m≤1∨Full v):
  ∃v' H',lapp P t v (some (m,new)) H=some (v',H')∧RowN N H' e s v' (n+m) (xs++new)∧Kept H H' v v'∧(Full v→Full v'):=by
 have hlen:(xs++new).length=(n+m)*s:=by rw [List.length_append,h.1,hl,Nat.add_mul]
 by_cases h0:m=0
 ·subst h0
  have hn0:new= []:=List.eq_nil_of_length_eq_zero (by rw [hl,Nat.zero_mul])
  subst hn0
  refine⟨v,H,?_,by simpa using h,⟨Nat.le_refl _,fun _ _ _=>rfl,fun _ _ h=>h,rfl,rfl⟩,fun h=>h⟩
  rcases h.2 with⟨rfl,rfl⟩|⟨k,c,rest,rfl,_,_,h2,h3,h4⟩
  ·exact lapp_nil0 hu hs
  ·simp only [lapp,hu,hs,hc,h2,if_true]
   rw [if_pos ⟨trivial,trivial,trivial,h4,h3⟩]
 rcases h.2 with⟨rfl,rfl⟩|⟨k,c,rest,rfl,h1,h2,h3,h4,h5⟩
 ·have hx:xs= []:=List.eq_nil_of_length_eq_zero (by rw [h.1,Nat.zero_mul])
  subst hx
  refine⟨_,_,lapp_nil hu hs hc h0 (by omega),⟨hlen,.inr ⟨H.n,m,[],by simp,hN,by simp,by simp,by omega,by simpa using hl⟩⟩,⟨by simp,fun k hk _=>get_new_ne (by omega),fun k hk _ n c h=>?_,rfl,rfl⟩,fun _=>full_new⟩
  injection h with h
  injection h with h
  injection h with h
  omega
 ·rcases Nat.lt_or_ge c (n+m)with hroom|hroom
  ·by_cases hnc:n=c
   ·subst hnc
    have hr:rest= []:=List.eq_nil_of_length_eq_zero (by rw [List.length_append,h.1]at h5;omega)
    subst hr
    rw [List.append_nil]at h3
    have ha:=lapp_grow (P:=P) (H:=H) (t:=t) (m:=m) (new:=new) (n:=n) (s:=s) hu hs hc h0 hm h3 rfl rfl h.1
    refine⟨_,_,ha,⟨hlen,.inr ⟨H.n,n+m,[],by simp,hN,by simp,?_,Nat.le_refl _,by simpa using hlen⟩⟩,⟨by simp,fun j hj ho=>?_,fun j hj ho n c h=>?_,rfl,rfl⟩,fun _=>full_new⟩
    ·rw [show H.n=(H.kill k).n from rfl,get_new];simp
    ·have hjk:j≠k:=fun e=>ho _ _ (by rw [e])
     rw [get_new_ne (by simp;omega),get_kill_ne hjk]
    ·injection h with h
     injection h with h
     injection h with h
     omega
   ·exfalso
    rcases hf with hf|hf
    ·omega
    ·exact hnc (hf k n c rfl).symm
  ·have ha:=lapp_in (P:=P) (H:=H) (t:=t) (m:=m) (new:=new) (n:=n) (cp:=c) (s:=s) hu hs hc h0 h3 rfl rfl h5 hroom
   have hrest:rest.length=(c-n)*s:=by
    rw [List.length_append,h.1]at h5
    rw [Nat.sub_mul];omega
   have hmr:m*s≤(c-n)*s:=Nat.mul_le_mul_right _ (by omega)
   refine⟨_,_,ha,⟨hlen,.inr ⟨k,c,rest.drop (m*s),rfl,h1,h2,?_,hroom,?_⟩⟩,⟨Nat.le_refl _,fun j hj ho=>?_,fun j hj ho n c' h=>?_,rfl,rfl⟩,fun hf=>absurd (hf k n c rfl) (by omega)⟩
   ·rw [get_set]
    congr 2
    simp only [splice]
    rw [←h.1,List.take_left',List.drop_append,hl]
    ·simp [List.drop_eq_nil_of_le]
    ·rfl
   ·rw [List.length_append,hlen,List.length_drop,hrest,←Nat.sub_mul,←Nat.add_mul]
    congr 1;omega
   ·have hjk:j≠k:=fun e=>ho _ _ (by rw [e])
    rw [get_set_ne hjk]
   ·injection h with h
    injection h with h
    injection h with h
    subst h
    exact ho _ _ rfl
end
section
variable {P:Program} {H:LH} {t:TypeId} {a b:Bool}
theorem pureVal_equal_b (hu:P.underlying t=some .bool):pureVal P (Op.equal t (.bool a) (.bool b))=some (a==b):=by
 unfold Op.equal
 show pureVal P (Op.equalIn (9999+1) t (.bool a) (.bool b))=_
 unfold Op.equalIn
 simp only [pureVal_bind,pureVal_und,hu,Option.bind_some,pureVal_pure]
@[simp] theorem lbin_beq (hu:P.underlying t=some .bool):lbin P .eql t (.bool a) (.bool b)=some (.bool (a==b)):=lbin_bb (by simp only [binOp,pureVal_bind,pureVal_equal_b hu,Option.bind_some,pureVal_pure]) rfl
@[simp] theorem lbin_bne (hu:P.underlying t=some .bool):lbin P .neq t (.bool a) (.bool b)=some (.bool (a !=b)):=lbin_bb (by simp only [binOp,pureVal_bind,pureVal_equal_b hu,Option.bind_some,pureVal_pure];rfl) rfl
@[simp ↓] theorem ev_str0 {fr:Fr} :ev fr (.const (.string ⟨#[]⟩))=str []:=rfl
@[simp ↓] theorem ev_str1 {fr:Fr} :ev fr (.const (.string ByteArray.empty))=str []:=rfl
@[simp] theorem ev_strc {fr:Fr} {l:List UInt8} :ev fr (.const (str l))=str l:=by
 show(if flatB (str l)then str l else unk)=_
 rw [if_pos flat_str]
@[simp] theorem get_new_eq {H:LH} {b:LB} {l:Nat} (h:l=H.n):(H.new b).get l=some b:=by subst h;exact get_new
@[simp] theorem new_set_eq {H:LH} {b c:LB} {l:Nat} (h:l=H.n):(H.new b).set l c=H.new c:=by subst h;exact new_set
@[simp ↓] theorem lopx_makeSlice {T:Callee} {fr:Fr} {x y:Operand} :lopx P T (.makeSlice t x y) fr H=lmake P t (ev fr x) (ev fr y) H:=rfl
@[simp] theorem lmake_one {e:TypeId} {z:Value} {l c:Int} {k k':IntKind} (hu:P.underlying t=some (.slice e)) (hs:lesz P e=some 1) (hz:zr P e=some z) (hf:flatB z=true) (hc:cellB z=true) (h0:0≤l) (h1:l≤c) (h2:c≤1048576):
  lmake P t (.int k l) (.int k' c) H=some (.slice (some ⟨H.n,0,none⟩) l.toNat c.toNat,H.new ⟨List.replicate c.toNat z,e,true⟩):=by
 unfold lesz at hs
 unfold zr at hz
 unfold lmake
 simp only [hu]
 cases hi:P.info? e with
 |none=>simp [hi]at hs
 |some i=>
  simp only [hi,Option.bind_some]at hs hz
  rw [hz]at hs
  simp only at hs
  split at hs
  ·rename_i hh
   simp only [Option.some.injEq]at hs
   simp only [hz]
   have hcs:z.cells=#[z]:=cells_one hc
   rw [if_pos (by
    simp only [Bool.and_eq_true,decide_eq_true_eq,beq_iff_eq]
    refine⟨⟨⟨⟨⟨⟨hf,by omega⟩,h0⟩,h1⟩,by rw [hs];omega⟩,hh.2.2⟩,by rw [hcs,hs];rfl⟩)]
   congr 3
   rw [hcs,hs,Nat.mul_one]
   congr 1
   apply List.ext_getElem
   ·simp
   ·intro i h1 h2
    simp [Nat.mod_one]
  ·cases hs
end
section
variable {P:Program} {H:LH} {t c:TypeId} {kd kd':IntKind} {a b:Int} {k:FloatKind} {x y r:Nat}
def bAnd (kd:IntKind) (a b:Int):Int:=kd.wrap ((BitVec.ofInt kd.bits a&&&BitVec.ofInt kd.bits b).toNat)
def bOr (kd:IntKind) (a b:Int):Int:=kd.wrap ((BitVec.ofInt kd.bits a|||BitVec.ofInt kd.bits b).toNat)
def bXor (kd:IntKind) (a b:Int):Int:=kd.wrap ((BitVec.ofInt kd.bits a^^^BitVec.ofInt kd.bits b).toNat)
def bNot (kd:IntKind) (a b:Int):Int:=kd.wrap ((BitVec.ofInt kd.bits a&&& ~~~ BitVec.ofInt kd.bits b).toNat)
@[simp] theorem lbin_and:lbin P .and t (.int kd a) (.int kd b)=some (.int kd (bAnd kd a b)):=lbin_ii (by simp [binOp,Op.intBits,bAnd]) rfl
@[simp] theorem lbin_or:lbin P .or t (.int kd a) (.int kd b)=some (.int kd (bOr kd a b)):=lbin_ii (by simp [binOp,Op.intBits,bOr]) rfl
@[simp] theorem lbin_xor:lbin P .xor t (.int kd a) (.int kd b)=some (.int kd (bXor kd a b)):=lbin_ii (by simp [binOp,Op.intBits,bXor]) rfl
@[simp] theorem lbin_andNot:lbin P .andNot t (.int kd a) (.int kd b)=some (.int kd (bNot kd a b)):=lbin_ii (by simp [binOp,Op.intBits,bNot]) rfl
theorem lbin_sh {op:BinOp} {v:Value} (h:pureVal P (binOp op t (.int kd a) (.int kd' b))=some v) (hv:flatB v=true):lbin P op t (.int kd a) (.int kd' b)=some v:=by
 have e:pureVal P (do eqGuard op t (.tmp 0) (.tmp 0) (.int kd a) (.int kd' b);binOp op t (.int kd a) (.int kd' b):Sem Value)=some v:=by
  rw [←h];cases op<;>rfl
 show pureFlat P (do eqGuard op t (.tmp 0) (.tmp 0) _ _;binOp op t _ _)=some v
 unfold pureFlat
 rw [e]
 simp only [hv,if_true]
@[simp] theorem lbin_shl (h:0≤b):lbin P .shl t (.int kd a) (.int kd' b)=some (.int kd (kd.wrap (a*2^(min b.toNat kd.bits)))):=lbin_sh (by
 have: ¬b<0:=by omega
 simp [binOp,Op.shift,this]) rfl
@[simp] theorem lbin_shr (h:0≤b):lbin P .shr t (.int kd a) (.int kd' b)=some (.int kd (a.fdiv (2^(min b.toNat kd.bits)))):=lbin_sh (by
 have: ¬b<0:=by omega
 simp [binOp,Op.shift,this]) rfl
@[simp ↓] theorem ev_float {fr:Fr} :ev fr (.const (.float k x))=.float k x:=rfl
@[simp] theorem flat_float:flatB (.float k x)=true:=by simp [flatB,flat1B,atomB]
@[simp] theorem cell_float:cellB (.float k x)=true:=by simp only [cellB]
theorem lbin_ff {op:BinOp} {v:Value} (h:pureVal P (binOp op t (.float k x) (.float k y))=some v) (hv:flatB v=true):lbin P op t (.float k x) (.float k y)=some v:=by
 have e:pureVal P (do eqGuard op t (.tmp 0) (.tmp 0) (.float k x) (.float k y);binOp op t (.float k x) (.float k y):Sem Value)=some v:=by
  rw [←h];cases op<;>rfl
 show pureFlat P (do eqGuard op t (.tmp 0) (.tmp 0) _ _;binOp op t _ _)=some v
 unfold pureFlat
 rw [e]
 simp only [hv,if_true]
theorem lbin_feq:lbin P .eql t (.float k x) (.float k y)=some (.bool (k.format.order x y==some .eq)):=lbin_ff (by
 simp only [binOp,Op.floatCmp,ne_eq,not_true_eq_false,if_false,pureVal_pure]) rfl
theorem lbin_fne:lbin P .neq t (.float k x) (.float k y)=some (.bool (k.format.order x y !=some .eq)):=lbin_ff (by
 simp only [binOp,Op.floatCmp,ne_eq,not_true_eq_false,if_false,pureVal_pure]) rfl
theorem lbin_flt:lbin P .lss t (.float k x) (.float k y)=some (.bool (k.format.order x y==some .lt)):=lbin_ff (by
 simp only [binOp,Op.floatCmp,ne_eq,not_true_eq_false,if_false,pureVal_pure]) rfl
theorem lbin_fgt:lbin P .gtr t (.float k x) (.float k y)=some (.bool (k.format.order x y==some .gt)):=lbin_ff (by
 simp only [binOp,Op.floatCmp,ne_eq,not_true_eq_false,if_false,pureVal_pure]) rfl
theorem lconv_if {n:Int} (h1:P.underlying t=some (.int kd)) (h2:P.underlying c=some (.float k)):lconv P t c (.int kd n) H=some (.float k (k.nearest n)):=by
 have e:pureVal P (convert t c (.int kd n))=some (.float k (k.nearest n)):=by
  simp only [convert,pureVal_bind,pureVal_und,h1,h2,Option.bind_some]
  rfl
 unfold lconv
 simp only [flat_int,if_true,pureFlat,e,flat_float]
attribute [simp] lbin_feq lbin_fne lbin_flt lbin_fgt lconv_if
end
def flatSpec (g:List Value→Option Value):Lg.Spec:=fun args H=>(g args).map fun v=>(v,H)
theorem specOk_flat {P:Program} {f:FuncId} {g:List Value→Option Value} (he:Entered P f)
  (h: ∀args v,g args=some v→(∀x∈args,flatB x=true)∧flatB v=true∧ ∀w,Calls P f args.toArray w fun e w'=>e=.returned v∧Change (fun _=>False) w w'):SpecOk P f (flatSpec g):=by
 intro args H v H' hs
 unfold flatSpec at hs
 obtain⟨u,hu,e⟩:=Option.map_eq_some_iff.1 hs
 simp only [Prod.mk.injEq]at e
 obtain⟨rfl,rfl⟩:=e
 obtain⟨h1,h2,h3⟩:=h args u hu
 exact .inl ⟨he,callOk_flatC h1 h2 h3⟩
theorem change_of_below {w w':World} (h:Below w.heap.size w w'):Change (fun _=>False) w w':=⟨h.os,h.tape,h.output,h.size,fun k hk _=>h.block k hk⟩
theorem same_mono {P:Program} {f:FuncId} {args:Array Value} {w:World} {v:Value} (h:Calls P f args w fun e w'=>e=.returned v∧w'=w):Calls P f args w fun e w'=>e=.returned v∧Change (fun _=>False) w w':=
 h.mono fun e w' ⟨h1,h2⟩=>⟨h1,by rw [h2];exact Change.refl _ _⟩
theorem below_mono {P:Program} {f:FuncId} {args:Array Value} {w:World} {v:Value} (h:Calls P f args w fun e w'=>e=.returned v∧Below w.heap.size w w'):Calls P f args w fun e w'=>e=.returned v∧Change (fun _=>False) w w':=
 h.mono fun e w' ⟨h1,h2⟩=>⟨h1,change_of_below h2⟩
theorem flat2 {x y:Value} (hx:flatB x=true) (hy:flatB y=true): ∀z∈ [x,y],flatB z=true:=by
 intro z hz
 rcases List.mem_cons.1 hz with rfl|hz
 ·exact hx
 ·rcases List.mem_cons.1 hz with rfl|hz
  ·exact hy
  ·cases hz
theorem flat1 {x:Value} (hx:flatB x=true): ∀z∈ [x],flatB z=true:=by
 intro z hz
 rcases List.mem_cons.1 hz with rfl|hz
 ·exact hx
 ·cases hz
theorem LC_flat {P:Program} {E:Ext} {f:FuncId} {g:List Value→Option Value} {args:List Value} {v:Value} {H:LH} (he:E f=some (flatSpec g)) (hg:g args=some v):LC P E f args H=some (v,H):=LC_ext he (by simp [flatSpec,hg])
def asc (s:ByteArray):Prop:= ∀(j:Nat) b,s.data.toList[j]?=some b→b.toNat<128
def ascL (s:List UInt8):Prop:= ∀b∈s,b.toNat<128
theorem asc_of {s:List UInt8} (h:ascL s):asc ⟨s.toArray⟩:=fun j b hb=>h b (List.mem_of_getElem? (by simpa using hb))
end Go.Lg
namespace Go.Proofs.YteeiipildjgdbaaGreatDoor
open Go.Lg Go.Tg
def gIndexByte:List Value→Option Value
 | [.string s,.int .u8 c]=>some (.int .i64 (Lib.indexByte s.data.toList c.toNat.toUInt8))
 |_=>none
theorem ok_IndexByte:SpecOk Tryz.prog 222 (flatSpec gIndexByte):=specOk_flat ⟨_,Tryz.func222,rfl,by decide⟩ fun args v h=>by
 unfold gIndexByte at h
 split at h
 ·injection h with h;subst h
  exact⟨flat2 rfl rfl,rfl,fun w=>same_mono (Tryz.strings_IndexByte _ _ w)⟩
 ·cases h
end Go.Proofs.YteeiipildjgdbaaGreatDoor
namespace Go.Lg
open Go.Tg Go.RowKit
def PR (P:Program) (E:PEnv) (Y:Option YC) (rd:Nat) (fn:Func) (k:List Item) (fr:Fr) (H:LH) (p:St) (Q:PQ):Prop:=W P E (.run Y rd fn k fr H p Q)
def PO (P:Program) (E:PEnv) (Y:Option YC) (rd:Nat) (fn:Func) (all:Array Oper) (os:List Oper) (k:List Item) (fr:Fr) (H:LH) (p:St) (Q:PQ):Prop:=W P E (.ops Y rd fn all os k fr H p Q)
def PHand (P:Program) (E:PEnv) (Y:Option YC) (rd:Nat) (fn:Func) (all:Array Oper) (os:List Oper) (k:List Item) (fr:Fr) (H:LH) (p:St) (Q:PQ):Prop:=PO P E Y rd fn all os k fr H p Q
def PRes (x:Option Value) (H:LH) (p:St) (Q:PQ):Prop:=match x with|some v=>Q (.ret v) H p|none=>False
def PCond (P:Program) (E:PEnv) (Y:Option YC) (rd:Nat) (fn:Func) (c:Value) (x y:Code) (k:List Item) (fr:Fr) (H:LH) (p:St) (Q:PQ):Prop:=
 match c with
 |.bool t=>if t=true then PR P E Y rd fn (.code x::k) fr H p Q else PR P E Y rd fn (.code y::k) fr H p Q
 |_=>False
def handB (E:PEnv) (fr:Fr) (op:Op):Bool:=match op with
 |.call c=>match c.callee with
  |.value x=>match ev fr x with
   |.func (.func g) _ _=>E.ps g
   |.func (.yield _) _ _=>true
   |_=>false
  |_=>false
 |.makeFunc _ first _=>first.size !=0
 |.range _ _|.next _ _|.entry _=>true
 |_=>false
def PG (P:Program) (E:PEnv) (Y:Option YC) (rd:Nat) (fn:Func) (g:Option Bool) (op:Op) (d:Nat) (all:Array Oper) (o:Oper) (os:List Oper) (k:List Item) (fr:Fr) (H:LH) (p:St) (Q:PQ):Prop:=
 match g with
 |some true=>RSel (handB E fr op) (PHand P E Y rd fn all (o::os) k fr H p Q) (XS (lopxB P (LC P E.E) op fr H) d fn.ntmps fr (fun fr' H'=>PO P E Y rd fn all os k fr' H' p Q))
 |some false=>d<fn.ntmps∧PO P E Y rd fn all os k (upd fr d undef) H p Q
 |none=>False
section
variable {P:Program} {E:PEnv} {Y:Option YC} {rd:Nat} {fn:Func} {k:List Item} {fr:Fr} {H H' H0:LH} {p:St} {Q:PQ} {all:Array Oper} {os:List Oper} {d:Nat} {op:Op} {ty:TypeId} {pos:String} {after:Array Edge} {v:Value}
theorem pr_skip:PR P E Y rd fn (.code .skip::k) fr H p Q↔PR P E Y rd fn k fr H p Q:=⟨fun h=>by cases h;assumption,W.skip⟩
theorem pr_label {l:Nat} :PR P E Y rd fn (.code (.label l)::k) fr H p Q↔PR P E Y rd fn k fr H p Q:=⟨fun h=>by cases h;assumption,W.label⟩
theorem pr_inBlock {l:Nat} :PR P E Y rd fn (.inBlock l::k) fr H p Q↔PR P E Y rd fn k fr H p Q:=⟨fun h=>by cases h;assumption,W.inBlock⟩
theorem pr_inScope {c:Code} :PR P E Y rd fn (.inScope c::k) fr H p Q↔PR P E Y rd fn k fr H p Q:=⟨fun h=>by cases h;assumption,W.inScope⟩
theorem pr_seq {a b:Code} :PR P E Y rd fn (.code (.seq a b)::k) fr H p Q↔PR P E Y rd fn (.code a::.code b::k) fr H p Q:=⟨fun h=>by cases h;assumption,W.seq⟩
theorem pr_block {id:Nat} {c:Code} :PR P E Y rd fn (.code (.block id c)::k) fr H p Q↔PR P E Y rd fn (.code c::.inBlock id::k) fr H p Q:=⟨fun h=>by cases h;assumption,W.block⟩
theorem pr_scope {c:Code} :PR P E Y rd fn (.code (.scope c)::k) fr H p Q↔PR P E Y rd fn (.code c::.inScope c::k) fr H p Q:=⟨fun h=>by cases h;assumption,W.scope⟩
theorem pr_loop {c:Code} :PR P E Y rd fn (.code (.loop c)::k) fr H p Q↔PR P E Y rd fn (.inLoop c::k) fr H p Q:=⟨fun h=>by cases h;exact W.inLoop ‹_›,fun h=>by cases h;exact W.loop ‹_›⟩
theorem pr_inLoop {c:Code} :PR P E Y rd fn (.inLoop c::k) fr H p Q↔PR P E Y rd fn (.code c::.inLoop c::k) fr H p Q:=⟨fun h=>by cases h;assumption,W.inLoop⟩
def PExit (P:Program) (E:PEnv) (Y:Option YC) (rd:Nat) (fn:Func) (id:Nat) (x:Option (List Item)) (fr:Fr) (H:LH) (p:St) (Q:PQ):Prop:=
 match x with
 |some k=>PR P E Y rd fn k fr H p Q
 |none=>Y=none∧rd=2∧Q (.jump (some (.exit id))) H p
@[congr] theorem pexit_congr {id:Nat} {x y:Option (List Item)} (h:x=y):PExit P E Y rd fn id x fr H p Q=PExit P E Y rd fn id y fr H p Q:=by rw [h]
@[simp] theorem pexit_some {id:Nat} :PExit P E Y rd fn id (some k) fr H p Q↔PR P E Y rd fn k fr H p Q:=Iff.rfl
@[simp] theorem pexit_none {id:Nat} :PExit P E none 2 fn id none fr H p Q↔Q (.jump (some (.exit id))) H p:=by simp [PExit]
theorem pr_exit {id:Nat} :PR P E Y rd fn (.code (.exit id)::k) fr H p Q↔PExit P E Y rd fn id (exitTo id k) fr H p Q:=by
 constructor
 ·intro h
  cases h with
  |exit1 hx q=>rw [hx];exact⟨rfl,rfl,q⟩
  |exit hx h=>rw [hx];exact h
 ·intro h
  cases hx:exitTo id k with
  |none=>rw [hx]at h;obtain⟨rfl,rfl,q⟩:=h;exact W.exit1 hx q
  |some k'=>rw [hx]at h;exact W.exit hx h
def PGoto (P:Program) (E:PEnv) (Y:Option YC) (rd:Nat) (fn:Func) (x:Option (List Item)) (fr:Fr) (H:LH) (p:St) (Q:PQ):Prop:=
 match x with
 |some k=>PR P E Y rd fn k fr H p Q
 |none=>False
@[congr] theorem pgoto_congr {x y:Option (List Item)} (h:x=y):PGoto P E Y rd fn x fr H p Q=PGoto P E Y rd fn y fr H p Q:=by rw [h]
@[simp] theorem pgoto_some:PGoto P E Y rd fn (some k) fr H p Q↔PR P E Y rd fn k fr H p Q:=Iff.rfl
theorem pr_goto {id:Nat} :PR P E Y rd fn (.code (.goto id)::k) fr H p Q↔PGoto P E Y rd fn (gotoIn id k) fr H p Q:=by
 constructor
 ·intro h
  cases h with
  |goto hx h=>rw [hx];exact h
 ·intro h
  cases hx:gotoIn id k with
  |none=>rw [hx]at h;exact h.elim
  |some k'=>rw [hx]at h;exact W.goto hx h
theorem pr_nil:PR P E Y 0 fn [] fr H p Q↔PRes (lresults P fn fr H) H p Q:=by
 constructor
 ·intro h
  cases h with
  |nil0 hx q=>rw [hx];exact q
 ·intro h
  cases hx:lresults P fn fr H with
  |none=>rw [hx]at h;exact h.elim
  |some v=>rw [hx]at h;exact W.nil0 hx h
theorem pr_ret:PR P E Y 0 fn (.code .ret::k) fr H p Q↔PRes (lresults P fn fr H) H p Q:=by
 constructor
 ·intro h
  cases h with
  |ret0 hx q=>rw [hx];exact q
 ·intro h
  cases hx:lresults P fn fr H with
  |none=>rw [hx]at h;exact h.elim
  |some v=>rw [hx]at h;exact W.ret0 hx h
theorem pr_nil2:PR P E none 2 fn [] fr H p Q↔Q (.jump none) H p:=⟨fun h=>by cases h;assumption,W.nil1⟩
theorem pr_ret2:PR P E none 2 fn (.code .ret::k) fr H p Q↔Q (.jump (some .ret)) H p:=⟨fun h=>by cases h;assumption,W.ret1⟩
theorem pr_cond {c:Operand} {x y:Code} :PR P E Y rd fn (.code (.cond c x y)::k) fr H p Q↔PCond P E Y rd fn (ev fr c) x y k fr H p Q:=by
 constructor
 ·intro h
  cases h with
  |@cond _ _ _ _ _ _ _ _ _ _ _ t hc h=>
   rw [hc]
   unfold PCond
   cases t with
   |true=>simp only [if_true];exact h
   |false=>simp only [Bool.false_eq_true,if_false];exact h
 ·intro h
  unfold PCond at h
  split at h
  ·rename_i t hc
   cases t with
   |true=>simp only [if_true]at h;exact W.cond hc h
   |false=>simp only [Bool.false_eq_true,if_false]at h;exact W.cond hc h
  ·exact h.elim
theorem pr_region {id:Nat} {l:List Oper} :PR P E Y rd fn (.code (.region id ⟨l⟩ false)::k) fr H p Q↔PO P E Y rd fn ⟨l⟩ l k fr H p Q:=⟨fun h=>by cases h;assumption,W.region⟩
theorem po_nil:PO P E Y rd fn all [] k fr H p Q↔PR P E Y rd fn k fr H p Q:=⟨fun h=>by cases h;assumption,W.onil⟩
theorem hand_ps (h:handB E fr op=false):psOf E fr op=false:=by
 unfold handB at h
 unfold psOf
 split
 ·rename_i c
  simp only at h⊢
  split
  ·rename_i x hx
   rw [hx]at h
   simp only at h⊢
   split
   ·rename_i g _ _ hg
    rw [hg]at h;exact h
   ·rfl
  ·rfl
 ·rfl
theorem po_plain {o:Oper} (hh:handB E fr o.op=false) (hw:lwant all fr o=some true):PO P E Y rd fn all (o::os) k fr H p Q↔ ∃v H1 fr1,lopB P (LC P E.E) o fr H=some (v,H1)∧lput fn.ntmps fr o.dst v=some fr1∧PO P E Y rd fn all os k fr1 H1 p Q:=by
 constructor
 ·intro h
  cases h with
  |oskip h1 _ _=>rw [hw]at h1;cases h1
  |oplain _ _ h1 h2 h3=>exact⟨_,_,_,h1,h2,h3⟩
  |omkf _ h1 h2 _ _=>rw [h1]at hh;simp [handB,h2]at hh
  |ocall _ _ h1 h2 h3 _ _ _ _ _=>rw [h1]at hh;simp [handB,h2,h3]at hh
  |orange _ _ h1 _ _ _ _=>obtain⟨x,h1,_⟩:=h1;rw [h1]at hh;simp [handB]at hh
  |onext _ _ _ h1 _ _ _ _ _ _=>obtain⟨x,h1,_⟩:=h1;rw [h1]at hh;simp [handB]at hh
  |oentry _ _ h1 _ _ _ _ _ _ _=>obtain⟨x,h1,_⟩:=h1;rw [h1]at hh;simp [handB]at hh
  |oyield _ _ h1 h2 _ _ _ _ _ _=>rw [h1]at hh;simp [handB,h2,tok]at hh
 ·rintro⟨v,H1,fr1,h1,h2,h3⟩
  exact W.oplain hw (hand_ps hh) h1 h2 h3
theorem po_cons:PO P E Y rd fn all (⟨some d,op,ty,pos,after,none⟩::os) k fr H p Q↔RSel (handB E fr op) (PHand P E Y rd fn all (⟨some d,op,ty,pos,after,none⟩::os) k fr H p Q) (XS (lopxB P (LC P E.E) op fr H) d fn.ntmps fr (fun fr' H'=>PO P E Y rd fn all os k fr' H' p Q)):=by
 cases hh:handB E fr op with
 |true=>exact Iff.rfl
 |false=>
  rw [po_plain hh rfl]
  unfold RSel XS
  simp only [lopB_x,lput]
  cases lopxB P (LC P E.E) op fr H with
  |none=>simp
  |some x=>
   obtain⟨u,H1⟩:=x
   by_cases hd:d<fn.ntmps
   ·simp [hd]
    exact⟨fun⟨_,_,⟨e1,e2⟩,h⟩=>by subst e1 e2;exact h,fun h=>⟨_,_,⟨rfl,rfl⟩,h⟩⟩
   ·simp [hd]
theorem po_cons0:PO P E Y rd fn all (⟨none,op,ty,pos,after,none⟩::os) k fr H p Q↔RSel (handB E fr op) (PHand P E Y rd fn all (⟨none,op,ty,pos,after,none⟩::os) k fr H p Q) (XS0 (lopxB P (LC P E.E) op fr H) fr (fun fr' H'=>PO P E Y rd fn all os k fr' H' p Q)):=by
 cases hh:handB E fr op with
 |true=>exact Iff.rfl
 |false=>
  rw [po_plain hh rfl]
  unfold RSel XS0
  simp only [lopB_x,lput]
  cases lopxB P (LC P E.E) op fr H with
  |none=>simp
  |some x=>
   obtain⟨u,H1⟩:=x
   simp
   exact⟨fun⟨_,_,⟨e1,e2⟩,h⟩=>by subst e1 e2;exact h,fun h=>⟨_,_,⟨rfl,rfl⟩,h⟩⟩
theorem po_guard {j:Nat} {want:Bool} :PO P E Y rd fn all (⟨some d,op,ty,pos,after,some (j,want)⟩::os) k fr H p Q↔PG P E Y rd fn (guardx all fr j want) op d all ⟨some d,op,ty,pos,after,some (j,want)⟩ os k fr H p Q:=by
 unfold PG
 cases hg:guardx all fr j want with
 |none=>
  simp only [iff_false]
  intro h
  have hw:lwant all fr ⟨some d,op,ty,pos,after,some (j,want)⟩=none:=by rw [lwant_x];exact hg
  cases h with
  |oskip h1 _ _=>rw [hw]at h1;cases h1
  |oplain h1 _ _ _ _=>rw [hw]at h1;cases h1
  |omkf h1 _ _ _ _=>rw [hw]at h1;cases h1
  |ocall _ h1 _ _ _ _ _ _ _ _=>rw [hw]at h1;cases h1
  |orange _ h1 _ _ _ _ _=>rw [hw]at h1;cases h1
  |onext _ _ h1 _ _ _ _ _ _ _=>rw [hw]at h1;cases h1
  |oentry _ h1 _ _ _ _ _ _ _ _=>rw [hw]at h1;cases h1
  |oyield _ h1 _ _ _ _ _ _ _ _=>rw [hw]at h1;cases h1
 |some b=>
  have hw:lwant all fr ⟨some d,op,ty,pos,after,some (j,want)⟩=some b:=by rw [lwant_x];exact hg
  cases b with
  |true=>
   cases hh:handB E fr op with
   |true=>exact Iff.rfl
   |false=>
    rw [po_plain hh hw]
    unfold RSel XS
    simp only [lopB_x,lput]
    cases lopxB P (LC P E.E) op fr H with
    |none=>simp
    |some x=>
     obtain⟨u,H1⟩:=x
     by_cases hd:d<fn.ntmps
     ·simp [hd]
      exact⟨fun⟨_,_,⟨e1,e2⟩,h⟩=>by subst e1 e2;exact h,fun h=>⟨_,_,⟨rfl,rfl⟩,h⟩⟩
     ·simp [hd]
  |false=>
   simp only
   constructor
   ·intro h
    cases h with
    |oskip h1 h2 h3=>
     simp only [lput]at h2
     split at h2
     ·rename_i hd;injection h2 with h2;subst h2;exact⟨hd,h3⟩
     ·cases h2
    |oplain h1 _ _ _ _=>rw [hw]at h1;cases h1
    |omkf h1 _ _ _ _=>rw [hw]at h1;cases h1
    |ocall _ h1 _ _ _ _ _ _ _ _=>rw [hw]at h1;cases h1
    |orange _ h1 _ _ _ _ _=>rw [hw]at h1;cases h1
    |onext _ _ h1 _ _ _ _ _ _ _=>rw [hw]at h1;cases h1
    |oentry _ h1 _ _ _ _ _ _ _ _=>rw [hw]at h1;cases h1
    |oyield _ h1 _ _ _ _ _ _ _ _=>rw [hw]at h1;cases h1
   ·rintro⟨hd,h⟩
    exact W.oskip hw (by simp only [lput];rw [if_pos hd]) h
attribute [simp ↓] pr_skip pr_label pr_seq pr_block pr_inBlock pr_inScope pr_scope pr_region pr_exit pr_goto pr_cond po_nil po_cons po_cons0 po_guard
attribute [simp] pr_nil pr_ret pr_nil2 pr_ret2
@[congr] theorem pcond_congr {c c':Value} {x y:Code} (h:c=c'):PCond P E Y rd fn c x y k fr H p Q=PCond P E Y rd fn c' x y k fr H p Q:=by rw [h]
@[congr] theorem pres_congr {x y:Option Value} (h:x=y):PRes x H p Q=PRes y H p Q:=by rw [h]
@[congr] theorem pg_congr {x y:Option Bool} {o:Oper} (h:x=y):PG P E Y rd fn x op d all o os k fr H p Q=PG P E Y rd fn y op d all o os k fr H p Q:=by rw [h]
@[congr] theorem phand_congr:PHand P E Y rd fn all os k fr H p Q=PHand P E Y rd fn all os k fr H p Q:=rfl
@[simp] theorem pcond_true {x y:Code} :PCond P E Y rd fn (.bool true) x y k fr H p Q↔PR P E Y rd fn (.code x::k) fr H p Q:=by simp [PCond]
@[simp] theorem pcond_false {x y:Code} :PCond P E Y rd fn (.bool false) x y k fr H p Q↔PR P E Y rd fn (.code y::k) fr H p Q:=by simp [PCond]
@[simp] theorem pres_some:PRes (some v) H p Q↔Q (.ret v) H p:=Iff.rfl
@[simp] theorem pres_none:PRes none H p Q↔False:=Iff.rfl
@[simp] theorem pg_true {o:Oper} :PG P E Y rd fn (some true) op d all o os k fr H p Q↔RSel (handB E fr op) (PHand P E Y rd fn all (o::os) k fr H p Q) (XS (lopxB P (LC P E.E) op fr H) d fn.ntmps fr (fun fr' H'=>PO P E Y rd fn all os k fr' H' p Q)):=Iff.rfl
@[simp] theorem pg_false {o:Oper} :PG P E Y rd fn (some false) op d all o os k fr H p Q↔d<fn.ntmps∧PO P E Y rd fn all os k (upd fr d undef) H p Q:=Iff.rfl
@[simp ↓] theorem hand_move {x:Operand} :handB E fr (.move x)=false:=rfl
@[simp ↓] theorem hand_assign {x:Operand} :handB E fr (.assign x)=false:=rfl
@[simp ↓] theorem hand_pick {c x y:Operand} :handB E fr (.pick c x y)=false:=rfl
@[simp ↓] theorem hand_alloc {t:TypeId} :handB E fr (.alloc t)=false:=rfl
@[simp ↓] theorem hand_box {t:TypeId} {x:Operand} :handB E fr (.box t x)=false:=rfl
@[simp ↓] theorem hand_load {t:TypeId} {x:Operand} :handB E fr (.load t x)=false:=rfl
@[simp ↓] theorem hand_store {t:TypeId} {x y:Operand} :handB E fr (.store t x y)=false:=rfl
@[simp ↓] theorem hand_nilCheck {x:Operand} :handB E fr (.nilCheck x)=false:=rfl
@[simp ↓] theorem hand_fieldAddr {t:TypeId} {x:Operand} {f:Nat} :handB E fr (.fieldAddr t x f)=false:=rfl
@[simp ↓] theorem hand_indexAddr {t:TypeId} {x i:Operand} :handB E fr (.indexAddr t x i)=false:=rfl
@[simp ↓] theorem hand_slice {t:TypeId} {x:Operand} {lo hi mx:Option Operand} :handB E fr (.slice t x lo hi mx)=false:=rfl
@[simp ↓] theorem hand_field {t:TypeId} {x:Operand} {f:Nat} :handB E fr (.field t x f)=false:=rfl
@[simp ↓] theorem hand_extract {x:Operand} {f:Nat} :handB E fr (.extract x f)=false:=rfl
@[simp ↓] theorem hand_build {t:TypeId} {ps:Array (Nat×Operand)} :handB E fr (.build t ps)=false:=rfl
@[simp ↓] theorem hand_buildSlice {t:TypeId} {n:Nat} {ps:Array (Nat×Operand)} :handB E fr (.buildSlice t n ps)=false:=rfl
@[simp ↓] theorem hand_makeSlice {t:TypeId} {x y:Operand} :handB E fr (.makeSlice t x y)=false:=rfl
@[simp ↓] theorem hand_makeFunc0 {f:Fn} {c:Array Operand} :handB E fr (.makeFunc f #[] c)=false:=rfl
@[simp ↓] theorem hand_makeFunc1 {f:Fn} {x:Operand} {l:List Operand} {c:Array Operand} :handB E fr (.makeFunc f ⟨x::l⟩ c)=true:=rfl
@[simp ↓] theorem hand_bin {op:BinOp} {t yt:TypeId} {x y:Operand} :handB E fr (.binOp op t x y yt)=false:=rfl
@[simp ↓] theorem hand_un {op:UnOp} {t:TypeId} {x:Operand} :handB E fr (.unOp op t x)=false:=rfl
@[simp ↓] theorem hand_conv {s t:TypeId} {x:Operand} :handB E fr (.convert s t x)=false:=rfl
@[simp ↓] theorem hand_index {t:TypeId} {x i:Operand} :handB E fr (.index t x i)=false:=rfl
@[simp ↓] theorem hand_builtin {b:Builtin} {args:Array Operand} {ts:Array TypeId} :handB E fr (.call ⟨.builtin b,args,ts⟩)=false:=rfl
@[simp ↓] theorem hand_makeMap {t:TypeId} {r:Option Operand} :handB E fr (.makeMap t r)=false:=rfl
@[simp ↓] theorem hand_lookup {t:TypeId} {x y:Operand} {b:Bool} :handB E fr (.lookup t x y b)=false:=rfl
@[simp ↓] theorem hand_mapUpdate {t:TypeId} {x y z:Operand} :handB E fr (.mapUpdate t x y z)=false:=rfl
def handV (E:PEnv) (v:Value):Bool:=match v with
 |.func (.func g) _ _=>E.ps g
 |.func (.yield _) _ _=>true
 |_=>false
@[simp ↓] theorem hand_call {x:Operand} {args:Array Operand} {ts:Array TypeId} :handB E fr (.call ⟨.value x,args,ts⟩)=handV E (ev fr x):=rfl
@[simp] theorem handV_func {g:FuncId} {a b:Array Value} :handV E (.func (.func g) a b)=E.ps g:=rfl
@[simp] theorem handV_tok {l:Nat} :handV E (tok l)=true:=rfl
@[simp] theorem handV_yield {l:Nat} {a b:Array Value} :handV E (.func (.yield l) a b)=true:=rfl
def fnR (L:Loud) (fn:Func) (n:Nat) (c:Code):Bool:=Nat.ble n fn.ntmps&&decide (fn.name≠ "runtime.NumGoroutine")&&codeOkR L fn.ntmps c
theorem fnR_of {L:Loud} {fn:Func} {n:Nat} {c:Code} (h:fnR L fn n c=true):n≤fn.ntmps∧fn.name≠ "runtime.NumGoroutine" ∧codeOkR L fn.ntmps c=true:=by
 simp only [fnR,Bool.and_eq_true,decide_eq_true_eq]at h
 exact⟨Nat.le_of_ble_eq_true h.1.1,h.1.2,h.2⟩
theorem wcall {f:FuncId} {fn:Func} {c:Code} {args:List Value} (hf:P.funcs[f]?=some fn) (hb:fn.body=some c) (hok:fnR E.pl fn args.length c=true) {Q:CQ0}
  (h:PR P E none 0 fn [.code c] (enter args) H st0 (fun r H' p'=>p'.pd=none∧Q r H')):W P E (.call f args H Q):=W.body ⟨hf,hb,fnR_of hok⟩ h fun _ _ _ h=>h
theorem pr_ret3:PR P E Y 3 fn (.code .ret::k) fr H p Q↔PRes (lresults P fn fr H) H p Q:=by
 constructor
 ·intro h
  cases h with
  |ret3 hx q=>rw [hx];exact q
 ·intro h
  cases hx:lresults P fn fr H with
  |none=>rw [hx]at h;exact h.elim
  |some v=>rw [hx]at h;exact W.ret3 hx h
theorem pr_nil3:PR P E Y 3 fn [] fr H p Q↔PRes (lresults P fn fr H) H p Q:=by
 constructor
 ·intro h
  cases h with
  |nil3 hx q=>rw [hx];exact q
 ·intro h
  cases hx:lresults P fn fr H with
  |none=>rw [hx]at h;exact h.elim
  |some v=>rw [hx]at h;exact W.nil3 hx h
attribute [simp] pr_ret3 pr_nil3
theorem pcall_flat {f:FuncId} {fn:Func} {c:Code} {args:List Value} {r:Res} (hf:P.funcs[f]?=some fn) (hb:fn.body=some c) (hok:fnR E.pl fn args.length c=true) (hr:flatR r=true)
  (h:PR P E none 0 fn [.code c] (enter args) H st0 (fun r1 H1 p'=>p'.pd=none∧r1=r∧H.le H1)):R P E (.call f args H r H):=
 W.trunc (wcall hf hb hok h) (by rintro _ _ ⟨rfl,h2⟩;exact .inr ⟨hr,h2,rfl,rfl⟩)
end
section
variable {cv:TypeId→TypeId→Bool} {P:Program} {E:PEnv} {Y:Option YC} {rd:Nat} {fn:Func} {k:List Item} {fr:Fr} {H H' H0:LH} {p:St} {Q:PQ} {all:Array Oper} {os:List Oper} {d N:Nat} {op:Op} {ty:TypeId} {pos:String} {after:Array Edge} {v:Value} {T:Callee} {L:Loud} {K F:KF} {prs:List (Nat×Nat)} {j:Nat} {old:Nat→Fr×LH}
theorem pr_draw (hrd:rd≠3) {id:Nat} {l:List Oper} :PR P E Y rd fn (.code (.region id ⟨l⟩ true)::k) fr H p Q↔DX P E.pl (LC P E.E) fn.ntmps (E.pl.ch fn.ntmps id l.length) (E.pl.pm fn.ntmps id l.length) l fr H (fun fr' H'=>PR P E Y rd fn k fr' H' p Q):=by
 have key:(∃fr1 H1,ldraw P E.pl (LC P E.E) fn.ntmps id ⟨l⟩ fr H=some (fr1,H1)∧PR P E Y rd fn k fr1 H1 p Q)↔DX P E.pl (LC P E.E) fn.ntmps (E.pl.ch fn.ntmps id l.length) (E.pl.pm fn.ntmps id l.length) l fr H (fun fr' H'=>PR P E Y rd fn k fr' H' p Q):=by
  unfold DX ldraw drawn DPm
  rw [show(⟨l⟩:Array Oper).size=l.length from rfl];exact Iff.rfl
 rw [←key]
 constructor
 ·intro h
  cases h with
  |draw h1 h2=>exact⟨_,_,h1,h2⟩
  |drawc _ _ _ _=>exact absurd rfl hrd
 ·rintro⟨fr1,H1,h1,h2⟩
  exact W.draw h1 h2
attribute [simp ↓] pr_draw
end
def seqDrop:Nat→Code→Code
 |0,c=>c
 |n+1,.seq _ b=>seqDrop n b
 |_+1,c=>c
def seqPre:Nat→Code→Code→Code
 |0,_,K=>K
 |n+1,.seq a b,K=>.seq a (seqPre n b K)
 |_+1,c,_=>c
@[simp ↓] theorem seqDrop_zero {c:Code} :seqDrop 0 c=c:=by cases c<;>rfl
@[simp ↓] theorem seqDrop_succ {n:Nat} {a b:Code} :seqDrop (n+1) (.seq a b)=seqDrop n b:=rfl
@[simp ↓] theorem seqPre_zero {c K:Code} :seqPre 0 c K=K:=by cases c<;>rfl
@[simp ↓] theorem seqPre_succ {n:Nat} {a b K:Code} :seqPre (n+1) (.seq a b) K=.seq a (seqPre n b K):=rfl
@[simp] theorem splice_all {cs vs:List Value} (h:cs.length=vs.length):splice cs 0 vs=vs:=by
 unfold splice;simp [h]
section
variable {n m:Nat}
end
theorem lbin_fn_ne {P:Program} {t:TypeId} {g:FuncId} {f cp:Array Value} {a b c:_} (hu:P.underlying t=some (.func a b c)):lbin P .neq t (.func (.func g) f cp) .nilFunc=some (.bool true):=by
 simp [lbin,hu]
theorem lbin_fn_eq {P:Program} {t:TypeId} {g:FuncId} {f cp:Array Value} {a b c:_} (hu:P.underlying t=some (.func a b c)):lbin P .eql t (.func (.func g) f cp) .nilFunc=some (.bool false):=by
 simp [lbin,hu]
attribute [simp] lbin_fn_eq
attribute [simp] lbin_fn_ne
@[simp ↓] theorem ev_nilIface {fr:Fr} :ev fr (.const .nilIface)=.nilIface:=rfl
@[simp ↓] theorem ev_nilFunc {fr:Fr} :ev fr (.const .nilFunc)=.nilFunc:=rfl
@[simp] theorem flat_nilIface:flatB .nilIface=true:=by simp only [flatB,flat1B,atomB]
@[simp] theorem cell_nilIface:cellB .nilIface=true:=by simp only [cellB]
@[simp] theorem cell_nilFunc:cellB .nilFunc=true:=by simp only [cellB]
@[simp] theorem atom_str {l:List UInt8} :atomB (str l)=true:=by simp only [atomB,str]
@[simp] theorem atom_int {k:IntKind} {n:Int} :atomB (.int k n)=true:=by simp only [atomB]
@[simp] theorem atom_bool {b:Bool} :atomB (.bool b)=true:=by simp only [atomB]
@[simp] theorem atom_nil:atomB (.pointer none)=true:=by simp only [atomB]
@[simp] theorem atom_nilslice:atomB (.slice none 0 0)=true:=by simp [atomB]
@[simp] theorem lbE_nil {P:Program} {t:TypeId} {z:List Value} (hp:plcB P t=true) (hz:z.all atomB=true):lbE P t (some (.agg ⟨z⟩)) []=some (.agg ⟨z⟩):=by
 rw [lbE_agg (by simp only [knownL]) hz,lfill_nil hp];rfl
section
variable {H H':LH} {b:LB} {l:Nat}
@[simp] theorem le_new_iff (h:H.n≤H'.n):H.le (H'.new b)↔H.le H':=by
 constructor
 ·intro hl;exact⟨h,fun k hk=>by rw [←hl.2 k hk,get_new_ne (by omega)]⟩
 ·intro hl;exact hl.new
@[simp] theorem le_set_iff (h:H.n≤l):H.le (H'.set l b)↔H.le H':=by
 constructor
 ·intro hl;exact⟨hl.1,fun k hk=>by rw [←hl.2 k hk,get_set_ne (by omega)]⟩
 ·intro hl;exact hl.set h
@[simp] theorem le_kill_iff (h:H.n≤l):H.le (H'.kill l)↔H.le H':=by
 constructor
 ·intro hl;exact⟨hl.1,fun k hk=>by rw [←hl.2 k hk,get_kill_ne (by omega)]⟩
 ·intro hl;exact hl.kill h
end
section
variable {P:Program} {E:Ext} {fn:Func} {k:List Item} {fr:Fr} {H:LH} {Q:Value×LH→Prop} {c:Code}
theorem runs_cut (n:Nat) (Inv:Fr→LH→Prop) (h1: ∀fr H,Inv fr H→Runs P E fn (.code (seqDrop n c)::k) fr H Q)
  (h2: ∀K,(∀fr H,Inv fr H→Runs P E fn (.code K::k) fr H Q)→Runs P E fn (.code (seqPre n c K)::k) fr H Q) (hc:seqPre n c (seqDrop n c)=c):Runs P E fn (.code c::k) fr H Q:=by
 have:=h2 (seqDrop n c) h1
 rw [hc]at this
 exact this
inductive Dir where
 |d (n:Nat)
 |l
 |t
 |e
 |b
def cAt:List Dir→Code→Code
 | [],c=>c
 |.d n::p,c=>cAt p (seqDrop n c)
 |.l::p,.seq a _=>cAt p a
 |.t::p,.cond _ a _=>cAt p a
 |.e::p,.cond _ _ a=>cAt p a
 |.b::p,.block _ a=>cAt p a
 |_::_,c=>c
def cPut:List Dir→Code→Code→Code
 | [],_,K=>K
 |.d n::p,c,K=>seqPre n c (cPut p (seqDrop n c) K)
 |.l::p,.seq a b,K=>.seq (cPut p a K) b
 |.t::p,.cond x a b,K=>.cond x (cPut p a K) b
 |.e::p,.cond x a b,K=>.cond x a (cPut p b K)
 |.b::p,.block i a,K=>.block i (cPut p a K)
 |_::_,c,_=>c
def cK:List Dir→Code→List Item→List Item
 | [],_,k=>k
 |.d n::p,c,k=>cK p (seqDrop n c) k
 |.l::p,.seq a b,k=>cK p a (.code b::k)
 |.t::p,.cond _ a _,k=>cK p a k
 |.e::p,.cond _ _ a,k=>cK p a k
 |.b::p,.block i a,k=>cK p a (.inBlock i::k)
 |_::_,_,k=>k
section
variable {p:List Dir} {n i:Nat} {a b K:Code} {x:Operand}
@[simp ↓] theorem cAt_nil:cAt [] c=c:=by cases c<;>rfl
@[simp ↓] theorem cAt_d:cAt (.d n::p) c=cAt p (seqDrop n c):=by cases c<;>rfl
@[simp ↓] theorem cAt_l:cAt (.l::p) (.seq a b)=cAt p a:=rfl
@[simp ↓] theorem cAt_t:cAt (.t::p) (.cond x a b)=cAt p a:=rfl
@[simp ↓] theorem cAt_e:cAt (.e::p) (.cond x a b)=cAt p b:=rfl
@[simp ↓] theorem cAt_b:cAt (.b::p) (.block i a)=cAt p a:=rfl
@[simp ↓] theorem cPut_nil:cPut [] c K=K:=by cases c<;>rfl
@[simp ↓] theorem cPut_d:cPut (.d n::p) c K=seqPre n c (cPut p (seqDrop n c) K):=by cases c<;>rfl
@[simp ↓] theorem cPut_l:cPut (.l::p) (.seq a b) K=.seq (cPut p a K) b:=rfl
@[simp ↓] theorem cPut_t:cPut (.t::p) (.cond x a b) K=.cond x (cPut p a K) b:=rfl
@[simp ↓] theorem cPut_e:cPut (.e::p) (.cond x a b) K=.cond x a (cPut p b K):=rfl
@[simp ↓] theorem cPut_b:cPut (.b::p) (.block i a) K=.block i (cPut p a K):=rfl
@[simp ↓] theorem cK_nil:cK [] c k=k:=by cases c<;>rfl
@[simp ↓] theorem cK_d:cK (.d n::p) c k=cK p (seqDrop n c) k:=by cases c<;>rfl
@[simp ↓] theorem cK_l:cK (.l::p) (.seq a b) k=cK p a (.code b::k):=rfl
@[simp ↓] theorem cK_t:cK (.t::p) (.cond x a b) k=cK p a k:=rfl
@[simp ↓] theorem cK_e:cK (.e::p) (.cond x a b) k=cK p b k:=rfl
@[simp ↓] theorem cK_b:cK (.b::p) (.block i a) k=cK p a (.inBlock i::k):=rfl
end
end
end Go.Lg
set_option maxRecDepth 100000
namespace Go.Lg
open Go.Tg Go.RowKit
theorem lconv_rune {P:Program} {H:LH} {t c:TypeId} {kd:IntKind} {n:Int} (h1:(P.underlying t).isSome=true) (h2:P.underlying c=some .string):lconv P t c (.int kd n) H=some (str (Utf8.encode n).data.toList):=by
 obtain⟨u,hu⟩:=Option.isSome_iff_exists.1 h1
 have e:pureVal P (convert t c (.int kd n))=some (.string (Utf8.encode n)):=by
  simp only [convert,pureVal_bind,pureVal_und,hu,h2,Option.bind_some,Conv.intToString,pureVal_pure]
 unfold lconv
 simp only [flat_int,if_true,pureFlat,e,flat_string,str_ba,flat_str]
theorem calls_of_R {P:Program} {E:PEnv} {f:FuncId} {args:List Value} {v:Value} {w:World} (hs: ∀H,Sound P E (.call f args H (.ret v) H)) (hf: ∀x∈args,flatB x=true) (hv:flatB v=true):Calls P f args.toArray w fun e w'=>e=.returned v∧Change (fun _=>False) w w':=by
 obtain⟨_,hc⟩:=hs (LH.empty w 0)
 obtain⟨h1,h2⟩:=flats_rel (D:=(LH.empty w 0).D) (ι:=ren0) hf
 refine(hc ren0 w args.toArray (rel_empty (Nat.zero_le _)) h1 h2).mono ?_
 rintro e w' ⟨ι',hr,ho⟩
 obtain⟨v',rfl,hv'⟩:=hr
 rw [flat_eq hv' hv]
 exact⟨rfl,ho.chg.mono (fun _ _ ⟨_,_,h,_⟩=>by cases h)⟩
end Go.Lg
namespace Go.Proofs.YteeiipildjgdbaaGreatDoor
open Go.Lg Go.Tg
def gValidRune:List Value→Option Value
 | [.int .i32 r]=>some (.bool (Lib.validRune r))
 |_=>none
theorem ok_ValidRune:SpecOk Tryz.prog 282 (flatSpec gValidRune):=specOk_flat ⟨_,Tryz.func282,rfl,by decide⟩ fun args v h=>by
 unfold gValidRune at h
 split at h
 ·injection h with h;subst h
  exact⟨flat1 (by simp),rfl,fun w=>same_mono (Tryz.utf8_ValidRune _ w)⟩
 ·cases h
noncomputable def eRune:PEnv:=⟨extLL [(222,flatSpec gIndexByte),(282,flatSpec gValidRune)] [],fun _=>false,⟨chT,cvS,fun _ _ _=> []⟩,fun _=>none,none,0,false⟩
theorem eRune_ok: ∀p∈ [(222,flatSpec gIndexByte),(282,flatSpec gValidRune)],SpecOk Tryz.prog p.1 p.2:=by
 intro p hp
 rcases List.mem_cons.1 hp with rfl|hp
 ·exact ok_IndexByte
 rcases List.mem_cons.1 hp with rfl|hp
 ·exact ok_ValidRune
 cases hp
theorem eRune_sound {j:JR} (h:R Tryz.prog eRune j):Sound Tryz.prog eRune j:=sound (LC_ok (extL_ok (loud:= []) eRune_ok) mixed) mixed (fun f s h=>by cases h) (fun f h=>by cases h) h
section
variable {H:LH} {s:List UInt8}
@[simp] theorem rIndexByte {c:UInt8} :LC Tryz.prog eRune.E 222 [str s,.int .u8 c.toNat] H=some (.int .i64 (Lib.indexByte s c),H):=LC_flat (g:=gIndexByte) rfl (by simp [gIndexByte,str])
@[simp] theorem rValidRune {r:Int} :LC Tryz.prog eRune.E 282 [.int .i32 r] H=some (.bool (Lib.validRune r),H):=LC_flat (g:=gValidRune) rfl (by simp [gValidRune])
@[simp] theorem eRune_ps {g:FuncId} :eRune.ps g=false:=rfl
@[simp] theorem eRune_ch {n id k:Nat} :eRune.pl.ch n id k=chT n id k:=rfl
@[simp] theorem eRune_cv {s d:TypeId} :eRune.pl.cv s d=(s==9&&d==94):=id rfl
@[simp] theorem eRune_pm {n id k:Nat} :eRune.pl.pm n id k= []:=rfl
theorem ib_none {c:UInt8} : ∀ {l:List UInt8},(∀b∈l,b≠c)→Lib.indexByte l c= -1
 | [],_=>rfl
 |b::l,h=>by
  show(if b==c then 0 else if Lib.indexByte l c== -1 then -1 else Lib.indexByte l c+1)=_
  rw [if_neg (by simpa using h b (by simp)),ib_none (fun x hx=>h x (by simp [hx]))];rfl
theorem idxRune_R {r:Int} (h128:128≤r) (hv:Lib.validRune r=true) (h533:r≠65533) (hs:s.length<4294967281) (hA: ∀b∈s,b.toNat<128):R Tryz.prog eRune (.call 257 [str s,.int .i32 r] H (.ret (.int .i64 (-1))) H):=by
 have hv':Utf8.valid r=true:=by
  have:=of_decide_eq_true hv
  unfold Utf8.valid
  simp only [Bool.or_eq_true,Bool.and_eq_true,decide_eq_true_eq]
  omega
 obtain⟨rs,hrs,f1,f2,c,hc,hc128⟩: ∃rs:List UInt8,(Utf8.encode r).data.toList=rs∧2≤rs.length∧rs.length≤4∧ ∃(c:UInt8),rs[rs.length-1]?=some c∧128≤c.toNat:=by
  obtain⟨f1,f2,f3⟩:=encode_facts r hv' h128
  have e:(Utf8.encode r).data.toList.length=(Utf8.encode r).size:=Array.length_toList
  refine⟨_,rfl,by omega,by omega,_,?_,f3 (by omega)⟩
  rw [e,Array.getElem?_toList]
  exact Array.getElem?_eq_getElem _
 refine pcall_flat Tryz.func257 rfl (by kernel_rfl) rfl ?_
 have q1:=eq_true (show(0:Int)≤r by omega)
 have q2:=eq_false (show¬r<128 by omega)
 have q3:=eq_false h533
 have hcv: ∀H,lconv Tryz.prog 21 9 (.int .i32 r) H=some (str rs):=fun H=>by rw [lconv_rune (by rw [Tryz.underlying21];rfl) Tryz.underlying9,hrs]
 have w1:IntKind.i64.wrap ((rs.length:Int)-1)=(rs.length:Int)-1:=by rw [wrap64_in (by omega) (by omega)]
 simp (maxSteps:=1000000) [q1,q2,q3,hv,hcv,w1]
 refine pr_loop.2 (pr_inLoop.2 ?_)
 by_cases hlt:rs.length-1<s.length
 ·have p1:=eq_true (show(rs.length:Int)-1<(s.length:Int) by omega)
  have p2:=eq_true (show(1:Int)≤(rs.length:Int) by omega)
  have e1:((rs.length:Int)-1).toNat=rs.length-1:=by omega
  have a1:at_ s ((rs.length:Int)-1)=s[rs.length-1]:=by
   unfold at_;rw [e1,List.getD_eq_getElem?_getD,List.getElem?_eq_getElem hlt];rfl
  have a2:at_ rs ((rs.length:Int)-1)=c:=by
   unfold at_;rw [e1,List.getD_eq_getElem?_getD,hc];rfl
  have hsb:=hA _ (List.getElem_mem hlt)
  have p3:=eq_false (show¬(s[rs.length-1].toNat:Int)=(c.toNat:Int) by omega)
  have w2:IntKind.i64.wrap (rs.length:Int)=(rs.length:Int):=by rw [wrap64_in (by omega) (by omega)]
  have p4:=eq_true (show(rs.length:Int)≤(s.length:Int) by omega)
  have p5:Lib.indexByte (s.drop rs.length) c= -1:=by
   exact ib_none fun b hb e=>by have:=hA b (List.mem_of_mem_drop hb);rw [e]at this;omega
  have p6:=eq_true (show(rs.length:Int)-1<(rs.length:Int) by omega)
  generalize s[rs.length-1]=d at*
  simp (maxSteps:=1000000) [p1,p2,p6,e1,a1,a2,p3,w2,p4,p5]
 ·have p1:=eq_false (show¬(rs.length:Int)-1<(s.length:Int) by omega)
  simp (maxSteps:=1000000) [p1]
end
end Go.Proofs.YteeiipildjgdbaaGreatDoor
set_option maxRecDepth 1000000
namespace Go.Proofs.YteeiipildjgdbaaGreatDoor
open Go.RowKit Go.Lib Go.Tg
theorem idxRune_any (s:ByteArray) (r:Int) (w:World) (h128:128≤r) (hv:Lib.validRune r=true) (hs:s.size<4294967281) (hascii: ∀(j:Nat) b,s.data.toList[j]?=some b→b.toNat<128):
  Calls Tryz.prog 257 #[.string s,.int .i32 r] w fun e w'=>e=.returned (.int .i64 (-1))∧Change (fun _=>False) w w':=by
 by_cases h533:r=65533
 ·subst h533
  refine(idxRune_bad s w hascii).mono ?_
  rintro e w' ⟨h,pos,rfl⟩
  exact⟨h,(Change.refl _ w).alloc _⟩
 ·have hl:s.data.toList.length<4294967281:=by rw [←Lib.size_eq];exact hs
  have hA: ∀b∈s.data.toList,b.toNat<128:=fun b hb=>by
   obtain⟨j,hj⟩:=List.mem_iff_getElem?.1 hb
   exact hascii j b hj
  have:=Go.Lg.calls_of_R (w:=w) (args:= [Go.Lg.str s.data.toList,.int .i32 r]) (v:=.int .i64 (-1)) (fun H=>eRune_sound (idxRune_R (H:=H) h128 hv h533 hl hA)) (Go.Lg.flat2 (by simp) (by simp)) (by simp)
  rw [←Go.Lg.str_ba]at this
  exact this
theorem idxAny_any (s chars:ByteArray) (w:World) (hs:s.size<4294967281) (hcs:chars.size<4294967281) (hac: ∀(j:Nat) b,chars.data.toList[j]?=some b→b.toNat<128):
  Calls Tryz.prog 225 #[.string s,.string chars] w fun e w'=>e=.returned (.int .i64 (Lib.indexAny s.data.toList chars.data.toList))∧Change (fun _=>False) w w':=by
 rcases Nat.lt_or_ge chars.size 2 with h|h
 ·rcases Nat.eq_zero_or_pos chars.size with h0|h0
  ·exact Go.Lg.same_mono (Tryz.strings_IndexAny_none s chars w h0)
  ·exact Go.Lg.same_mono (Tryz.strings_IndexAny_one s chars w (by omega) hac)
 ·rcases Nat.lt_or_ge 8 s.size with h8|h8
  ·refine(Tryz.strings_IndexAny_long (fun w=>by first|exact Tryz.zeroValue_ascii w|exact(by kernel_rfl)) s chars w h h8 hs hcs hac).mono ?_
   rintro e w' ⟨h1,rfl⟩
   exact⟨h1,((Change.refl _ w).alloc _).alloc _⟩
  ·exact idxAny_short (fun s r w a b c d=>idxRune_any s r w a b c d) s chars w h h8 hcs hac
end Go.Proofs.YteeiipildjgdbaaGreatDoor
set_option maxRecDepth 100000
namespace Go.Lg
open Go.Tg Go.RowKit
section
variable {P:Program} {H H':LH} {ι:Ren} {w w':World}
theorem vr_row {D:Nat→Prop} {g o n c:Nat} {v':Value} (h:VR D ι (.slice (some ⟨g,o,none⟩) n c) v') (h0:n≠0):v'=.slice (some ⟨(ι g).blk,(ι g).off+o,none⟩) n (c+(ι g).slack)∧(ι g).off=0:=by
 cases h with
 |flat _ hv=>simp [flatB,flat1B,atomB]at hv
 |slice _ _ _ _ _ hq _=>exact⟨rfl,hq⟩
 |slice0 _ _ _ _=>exact absurd rfl h0
theorem out_kill (h:Rel P H ι w) {l:Nat} {b:LB} (hb:H.get l=some b) (hrw:b.rw=true) (hc:Change (fun k=>k=(ι l).blk) w w'):Out P H ι w (H.kill l) ι w':=by
 have hRW:RW H ι (ι l).blk:=⟨l,b,hb,hrw,rfl⟩
 refine⟨rel_off (rel_kill h l) hc ?_,Nat.le_refl _,fun _ h=>h,fun _ _=>rfl,hc.mono (fun k _ e=>by rw [e];exact hRW),?_,?_,rfl⟩
 ·rintro k rfl
  refine⟨?_,fun hk=>(h.pin _ hk).2.2 hRW⟩
  rintro⟨l',b',hb',e⟩
  have hb2:(H.kill l).get l'=some b':=hb'
  have hne:l'≠l:=by rintro rfl;simp at hb2
  rw [get_kill_ne hne]at hb2
  exact h.sep l l' b b' hb hb2 hrw (Ne.symm hne) e.symm
 ·rintro k ⟨l',b',hb',hr,e⟩
  have hb2:(H.kill l).get l'=some b':=hb'
  have hne:l'≠l:=by rintro rfl;simp at hb2
  rw [get_kill_ne hne]at hb2
  exact .inl ⟨l',b',hb2,hr,e⟩
 ·rintro k ⟨l',b',hb',e⟩
  have hb2:(H.kill l).get l'=some b':=hb'
  have hne:l'≠l:=by rintro rfl;simp at hb2
  rw [get_kill_ne hne]at hb2
  exact .inl ⟨l',b',hb2,e⟩
end
end Go.Lg
namespace Go.Proofs.YteeiipildjgdbaaGreatDoor
open Go.Lg Go.Tg
theorem one_ptr {P:Program} {H:LH} {ι:Ren} {b:Nat} {args':Array Value} (hl: [Value.pointer (some ⟨b,0,none⟩)].length=args'.size) (h: ∀(i:Nat) (x y:Value),[Value.pointer (some ⟨b,0,none⟩)][i]?=some x→args'[i]?=some y→VR H.D ι x y):args'=#[.pointer (some ⟨(ι b).blk,(ι b).off,none⟩)]∧(ι b).off=0:=by
 have h1:args'.size=1:=hl.symm
 have hv:=h 0 _ _ rfl (Array.getElem?_eq_getElem (by omega))
 obtain⟨⟨_,ho⟩,e⟩:=vr_ptr hv
 refine⟨?_,ho⟩
 apply Array.ext
 ·simp [h1]
 ·intro i h2 h3
  obtain rfl:i=0:=by omega
  rw [e];simp
def specCopy:Lg.Spec:=fun args H=>match args with
 | [.pointer (some ⟨b,0,none⟩)]=>match H.get b with
  |some ⟨[.pointer none,v],e,true⟩=>if e=96 then some (.tuple #[],H.set b ⟨[ptr b 0,v],e,true⟩)else none
  |some ⟨[.pointer (some ⟨b',0,none⟩),v],e,true⟩=>if b'=b then some (.tuple #[],H)else none
  |_=>none
 |_=>none
theorem ok_Copy:SpecOk Tryz.prog 74 specCopy:=by
 intro args H v H' hs
 refine .inl ⟨⟨_,Tryz.func74,rfl,by decide⟩,?_⟩
 unfold specCopy at hs
 split at hs
 ·rename_i b
  split at hs
  ·rename_i x e hg
   split at hs
   ·rename_i he
    subst he
    simp only [Option.some.injEq,Prod.mk.injEq]at hs
    obtain⟨rfl,rfl⟩:=hs
    intro ι w args' hrel hl ha
    obtain⟨rfl,hoff⟩:=one_ptr (P:=Tryz.prog) hl ha
    rw [hoff]
    obtain⟨arr,t,f,hw,hsz,hcells,hrw⟩:=hrel.blk hg hoff
    obtain⟨_,hel,s,hs1,hs2,hs3⟩:=hrw rfl
    obtain⟨rfl,rfl⟩:=ElOk.plain hel (show sz Tryz.prog 96=some 2 by kernel_rfl)
    have hs1':s=2:=Option.some.inj (hs1.symm.trans (show sz Tryz.prog 96=some 2 by kernel_rfl))
    subst hs1'
    have hc0:w.cell? ⟨(ι b).blk,0,none⟩=some (.pointer none):=by
     obtain⟨v',h1,h2⟩:=hrel.cell hg hoff (i:=0) rfl
     rw [hoff]at h1
     rw [h1,flat_eq h2 rfl]
    refine(bld_fresh (ι b).blk (ι b).slack w hc0 (by simp [World.shape?,hw,hs2]) (by simp [World.frozen?,hw])).mono ?_
    rintro e w' ⟨rfl,rfl⟩
    refine⟨ι,_,rfl,?_,.flat _ rfl⟩
    refine rel_set hrel (b:=⟨[.pointer none,x],96,true⟩) (b':=⟨[ptr b 0,x],96,true⟩) hg hoff rfl rfl rfl hw (arr':=arr.setIfInBounds 0 (.pointer (some ⟨(ι b).blk,0,none⟩))) (by simp) ?_ ?_ ?_
    ·intro i y hy
     cases i with
     |zero=>
      simp only [List.getElem?_cons_zero,Option.some.injEq]at hy
      subst hy
      refine⟨.pointer (some ⟨(ι b).blk,0,none⟩),?_,?_⟩
      ·rw [Array.getElem?_setIfInBounds_self_of_lt (by rw [hs2];simp;omega)]
      ·have:=VR.ptr (n:=H.D) (ι:=ι) b 0 (hrel.live hg) hoff
       rw [hoff]at this;exact this
     |succ i=>
      obtain⟨y',h1,h2⟩:=hcells (i+1) y hy
      rw [hoff,Nat.zero_add]at h1
      exact⟨y',by rw [Array.getElem?_setIfInBounds_ne (by omega)];exact h1,h2⟩
    ·simp [World.setCell,Array.getElem?_modify,hw]
    ·refine⟨rfl,rfl,rfl,by simp [World.setCell],fun k hk hn=>?_⟩
     simp only [World.setCell,Array.getElem?_modify]
     rw [if_neg (fun e=>hn e.symm)]
   ·cases hs
  ·rename_i b' x e hg
   split at hs
   ·rename_i he
    subst he
    simp only [Option.some.injEq,Prod.mk.injEq]at hs
    obtain⟨rfl,rfl⟩:=hs
    intro ι w args' hrel hl ha
    obtain⟨rfl,hoff⟩:=one_ptr (P:=Tryz.prog) hl ha
    have hc0:w.cell? ⟨(ι b').blk,0,none⟩=some (.pointer (some ⟨(ι b').blk,0,none⟩)):=by
     obtain⟨v',h1,h2⟩:=hrel.cell hg hoff (i:=0) rfl
     rw [hoff]at h1
     rw [h1,(vr_ptr h2).2,hoff]
    rw [hoff]
    refine(bld_used (ι b').blk w hc0).mono ?_
    rintro e w' ⟨rfl,rfl⟩
    exact⟨ι,_,rfl,Out.refl hrel,.flat _ rfl⟩
   ·cases hs
  ·cases hs
 ·cases hs
open Classical in
noncomputable def specBStr:Lg.Spec:=fun args H=>match args with
 | [.pointer (some ⟨b,0,none⟩)]=>match H.get b with
  |some ⟨[_,.slice none 0 0],_,true⟩=>some (str [],H)
  |some ⟨[_,.slice (some ⟨g,0,none⟩) n c],_,true⟩=>match H.get g with
   |some ⟨cs,e,true⟩=>if∃l:List UInt8,l≠ []∧cs.take n=l.map bv∧l.length=n∧n≤c∧n≤maxLen∧e=5 then(lbs (cs.take n)).map fun l=>(str l,H.kill g)else none
   |_=>none
  |_=>none
 |_=>none
theorem ok_BStr:SpecOk Tryz.prog 56 specBStr:=by
 intro args H v H' hs
 refine .inl ⟨⟨_,Tryz.func56,rfl,by decide⟩,?_⟩
 unfold specBStr at hs
 split at hs
 ·rename_i b
  split at hs
  ·rename_i p e hg
   simp only [Option.some.injEq,Prod.mk.injEq]at hs
   obtain⟨rfl,rfl⟩:=hs
   intro ι w args' hrel hl ha
   obtain⟨rfl,hoff⟩:=one_ptr (P:=Tryz.prog) hl ha
   have hc1:w.cell? ⟨(ι b).blk,1,none⟩=some (.slice none 0 0):=by
    obtain⟨v',h1,h2⟩:=hrel.cell hg hoff (i:=1) rfl
    rw [hoff]at h1
    rw [h1,flat_eq h2 rfl]
   rw [hoff]
   refine(bld_string_nil (ι b).blk w hc1).mono ?_
   rintro e w' ⟨rfl,hc⟩
   exact⟨ι,_,rfl,out_change hrel hc,.flat _ rfl⟩
  ·rename_i p g n c e hg
   split at hs
   ·rename_i cs e2 hgg
    split at hs
    ·rename_i hex
     obtain⟨l,h0,htk,hln,hnc,hnm,rfl⟩:=hex
     rw [htk,lbs_map]at hs
     simp only [Option.map_some,Option.some.injEq,Prod.mk.injEq]at hs
     obtain⟨rfl,rfl⟩:=hs
     intro ι w args' hrel hl ha
     obtain⟨rfl,hoff⟩:=one_ptr (P:=Tryz.prog) hl ha
     subst hln
     have hne:l.length≠0:=by simpa using h0
     obtain⟨hc1,hoffg⟩:w.cell? ⟨(ι b).blk,1,none⟩=some (.slice (some ⟨(ι g).blk,0,none⟩) l.length (c+(ι g).slack))∧(ι g).off=0:=by
      obtain⟨v',h1,h2⟩:=hrel.cell hg hoff (i:=1) rfl
      rw [hoff]at h1
      obtain⟨q1,q2⟩:=vr_row h2 hne
      exact⟨by rw [h1,q1,q2],q2⟩
     obtain⟨arr,t,f,hw,hsz,hcells,hrw⟩:=hrel.blk hgg hoffg
     obtain⟨_,hel,s,hs1,hs2,hs3⟩:=hrw rfl
     obtain⟨rfl,rfl⟩:=ElOk.plain hel (show sz Tryz.prog 5=some 1 by kernel_rfl)
     have hlen:l.length≤cs.length:=by
      have:=congrArg List.length htk
      simp at this;omega
     rw [hoff]
     refine(bld_string (ι b).blk (ι g).blk (c+(ι g).slack) l arr w h0 hc1 hw (by omega) (by rw [hs2];simp;omega) hnm (fun j x hx=>?_)).mono ?_
     ·have hj:j<l.length:=(List.getElem?_eq_some_iff.1 hx).1
      have h1:cs[j]?=some (bv x):=by
       have:(cs.take l.length)[j]?=some (bv x):=by rw [htk,List.getElem?_map,hx];rfl
       rwa [List.getElem?_take,if_pos hj]at this
      obtain⟨y,h2,h3⟩:=hcells j _ h1
      rw [hoffg,Nat.zero_add]at h2
      rw [h2,flat_eq h3 rfl];rfl
     ·rintro e w' ⟨rfl,hc⟩
      exact⟨ι,_,rfl,out_kill hrel hgg rfl hc,.flat _ rfl⟩
    ·cases hs
   ·cases hs
  ·cases hs
 ·cases hs
def MaxL (H:LH):Prop:=0<H.ng∧ ∃m,H.base.cell? ⟨0,0,none⟩=some (.int .i64 m)
theorem max_at {P:Program} {H:LH} {ι:Ren} {w:World} (hrel:Rel P H ι w) (h:MaxL H): ∃m,w.cell? ⟨0,0,none⟩=some (.int .i64 m):=by
 obtain⟨h1,m,h2⟩:=h
 refine⟨m,?_⟩
 unfold World.cell? at h2⊢
 rw [pin_block hrel h1]
 exact h2
theorem one_str {P:Program} {H:LH} {ι:Ren} {args':Array Value} {vs:List Value} (hf: ∀x∈vs,flatB x=true) (hl:vs.length=args'.size) (h: ∀(i:Nat) (x y:Value),vs[i]?=some x→args'[i]?=some y→VR H.D ι x y):args'=vs.toArray:=by
 apply Array.ext
 ·simp [hl]
 ·intro i h3 h4
  have hx:vs[i]?=some (vs[i]'(by simpa using h4)):=List.getElem?_eq_getElem _
  have:=flat_eq (h i _ _ hx (Array.getElem?_eq_getElem h3)) (hf _ (List.getElem_mem _))
  rw [this];simp
open Classical in
noncomputable def specContains:Lg.Spec:=fun args H=>match args with
 | [.string s,.string sep]=>if s.size<4294967281∧(sep.size=1∨MaxL H)then some (.bool (Lib.contains s.data.toList sep.data.toList),H)else none
 |_=>none
theorem contains_one (s:List UInt8) (c:UInt8):decide (0≤Lib.indexByte s c)=Lib.contains s [c]:=by
 unfold Lib.contains;rw [Lib.index_one]
theorem ok_Contains:SpecOk Tryz.prog 232 specContains:=by
 intro args H v H' hs
 refine .inl ⟨⟨_,Tryz.func232,rfl,by decide⟩,?_⟩
 unfold specContains at hs
 split at hs
 ·rename_i s sep
  split at hs
  ·rename_i hc
   obtain⟨h1,h2⟩:=hc
   simp only [Option.some.injEq,Prod.mk.injEq]at hs
   obtain⟨rfl,rfl⟩:=hs
   intro ι w args' hrel hl ha
   obtain rfl:=one_str (P:=Tryz.prog) (flat2 (by simp) (by simp)) hl ha
   rcases h2 with h2|h2
   ·obtain⟨c,hc⟩: ∃c,sep=⟨#[c]⟩:=by
     obtain⟨⟨l⟩⟩:=sep
     have:l.length=1:=h2
     match l,this with
     | [c],_=>exact⟨c,rfl⟩
    subst hc
    refine(Tryz.strings_Contains_one s c w).mono ?_
    rintro e w' ⟨rfl,rfl⟩
    exact⟨ι,_,rfl,Out.refl hrel,by rw [contains_one];exact .flat _ rfl⟩
   ·obtain⟨m,hm⟩:=max_at hrel h2
    refine(Tryz.strings_Contains s sep m w h1 hm).mono ?_
    rintro e w' ⟨rfl,rfl⟩
    exact⟨ι,_,rfl,Out.refl hrel,.flat _ rfl⟩
  ·cases hs
 ·cases hs
open Classical in
noncomputable def specSplit:Lg.Spec:=fun args H=>match args with
 | [.string s,.string sep]=>if s.size<4294967281∧1≤sep.size∧MaxL H∧Lib.countB s sep+1≤maxLen∧(Lib.splitB sep 0 (Lib.countB s sep) s).length=Lib.countB s sep+1 then
   some (sl H.n (Lib.countB s sep+1) (Lib.countB s sep+1),H.new ⟨(Lib.splitB sep 0 (Lib.countB s sep) s).map Value.string,9,true⟩)
  else none
 |_=>none
theorem ok_Split:SpecOk Tryz.prog 35 specSplit:=by
 intro args H v H' h
 refine .inl ⟨⟨_,Tryz.func35,rfl,by decide⟩,?_⟩
 unfold specSplit at h
 split at h
 ·rename_i s sep
  split at h
  ·rename_i hc
   obtain⟨h1,h2,h3,h4,h5⟩:=hc
   simp only [Option.some.injEq,Prod.mk.injEq]at h
   obtain⟨rfl,rfl⟩:=h
   exact callOk_row (flat2 rfl rfl) (fun x hx=>by
     obtain⟨l,_,rfl⟩:=List.mem_map.1 hx
     rfl) (by kernel_rfl) (by simpa using h5) h4 (fun ι w hrel=>by
      obtain⟨m,hm⟩:=max_at hrel h3
      exact Tryz.strings_Split s sep m w h1 hm h2)
  ·cases h
 ·cases h
open Classical in
noncomputable def specJoin:Lg.Spec:=fun args H=>match args with
 | [.slice none 0 0,.string sep]=>some (str [],H)
 | [.slice (some ⟨l,o,none⟩) n c,.string sep]=>if h: ∃(b:LB) (xs:List (List UInt8)),H.get l=some b∧n≠0∧n≤c∧n≤140737488355328∧xs.length=n∧(b.cells.drop o).take n=xs.map str∧(Lib.join xs sep.data.toList).length≤140737488355328 then
   some (str (Lib.join (Classical.choose (Classical.choose_spec h)) sep.data.toList),H)else none
 |_=>none
theorem str_inj {a b:List UInt8} (h:str a=str b):a=b:=by
 unfold str at h
 injection h with h
 injection h with h
 injection h
theorem map_str_inj: ∀ {xs ys:List (List UInt8)},xs.map str=ys.map str→xs=ys
 | [],[],_=>rfl
 | [],y::ys,h=>by simp at h
 |x::xs,[],h=>by simp at h
 |x::xs,y::ys,h=>by
  simp only [List.map_cons,List.cons.injEq]at h
  rw [str_inj h.1,map_str_inj h.2]
theorem ok_Join:SpecOk Tryz.prog 106 specJoin:=by
 intro args H v H' hs
 refine .inl ⟨⟨_,Tryz.func106,rfl,by decide⟩,?_⟩
 unfold specJoin at hs
 split at hs
 ·rename_i sep
  simp only [Option.some.injEq,Prod.mk.injEq]at hs
  obtain⟨rfl,rfl⟩:=hs
  intro ι w args' hrel hl ha
  obtain rfl:=one_str (P:=Tryz.prog) (flat2 (by simp) (by simp)) hl ha
  refine(Tryz.strings_Join_none none 0 sep w).mono ?_
  rintro e w' ⟨rfl,rfl⟩
  exact⟨ι,_,rfl,Out.refl hrel,.flat _ rfl⟩
 ·rename_i l o n c sep
  split at hs
  ·rename_i hex
   have hspec:=Classical.choose_spec (Classical.choose_spec hex)
   obtain⟨hb,h0,hnc,hn,hxl,hcells,hlen⟩:=hspec
   generalize Classical.choose (Classical.choose_spec hex)=xs at*
   generalize Classical.choose hex=b at*
   simp only [Option.some.injEq,Prod.mk.injEq]at hs
   obtain⟨rfl,rfl⟩:=hs
   intro ι w args' hrel hl ha
   have h2:args'.size=2:=hl.symm
   have v0:=ha 0 _ _ rfl (Array.getElem?_eq_getElem (show 0<args'.size by omega))
   have v1:=ha 1 _ _ rfl (Array.getElem?_eq_getElem (show 1<args'.size by omega))
   obtain⟨e0,hoff⟩:=vr_row v0 h0
   have e1:=flat_eq v1 rfl
   obtain rfl:args'=#[.slice (some ⟨(ι l).blk,(ι l).off+o,none⟩) n (c+(ι l).slack),.string sep]:=by
    apply Array.ext
    ·simp [h2]
    ·intro i h3 h4
     have:i=0∨i=1:=by omega
     rcases this with rfl|rfl
     ·rw [e0];simp
     ·rw [e1];simp
   have hmap:xs.map (fun x=>(⟨x.toArray⟩:ByteArray).data.toList)=xs:=by simp
   have hj:(List.map (fun x=>x.data.toList) (xs.map fun x=>(⟨x.toArray⟩:ByteArray)))=xs:=by simp [Function.comp_def]
   have:=Tryz.strings_Join (ι l).blk ((ι l).off+o) (c+(ι l).slack) (xs.map fun x=>(⟨x.toArray⟩:ByteArray)) sep w (fun j x hx=>?_) (rel_lt hrel hb) (by simp;omega) (by simp;omega) (by rw [hj];exact hlen)
   ·rw [hj]at this
    rw [List.length_map,hxl]at this
    refine this.mono ?_
    rintro e w' ⟨rfl,hbl⟩
    exact⟨ι,_,rfl,out_change hrel (change_of_below hbl),.flat _ rfl⟩
   ·rw [List.getElem?_map]at hx
    obtain⟨y,hy,rfl⟩:=Option.map_eq_some_iff.1 hx
    have hjn:j<n:=by rw [←hxl];exact(List.getElem?_eq_some_iff.1 hy).1
    have hc:b.cells[o+j]?=some (str y):=by
     have:((b.cells.drop o).take n)[j]?=some (str y):=by rw [hcells,List.getElem?_map,hy];rfl
     rw [List.getElem?_take,if_pos hjn,List.getElem?_drop]at this
     exact this
    obtain⟨v',g1,g2⟩:=hrel.cell hb hoff (i:=o+j) hc
    rw [show(ι l).off+o+j=(ι l).off+(o+j) by omega,g1,flat_eq g2 rfl]
    rfl
  ·cases hs
 ·cases hs
def Tab10 (H:LH):Prop:=1<H.ng∧Lib.TabIs Tryz.prog H.base "internal/strconv.uint64pow10" .u64 Lib.pow10Tab
theorem tab10_at {P:Program} {H:LH} {ι:Ren} {w:World} (hrel:Rel P H ι w) (h:Tab10 H):Lib.TabIs Tryz.prog w "internal/strconv.uint64pow10" .u64 Lib.pow10Tab:=by
 have h2:=h.2
 unfold Lib.TabIs World.var? at h2⊢
 rw [show Tryz.prog.globalNamed "internal/strconv.uint64pow10" =some 1 by kernel_rfl]at h2⊢
 simp only [Option.bind_some]at h2⊢
 rw [pin_block hrel h.1]
 exact h2
open Classical in
noncomputable def specItoa:Lg.Spec:=fun args H=>match args with
 | [.int .i64 n]=>if -9223372036854775808≤n∧n≤9223372036854775807∧Tab10 H then some (str (Lib.itoa n),H)else none
 |_=>none
theorem ok_Itoa:SpecOk Tryz.prog 37 specItoa:=by
 intro args H v H' hs
 refine .inl ⟨⟨_,Tryz.func37,rfl,by decide⟩,?_⟩
 unfold specItoa at hs
 split at hs
 ·rename_i n
  split at hs
  ·rename_i hc
   obtain⟨h1,h2,h3⟩:=hc
   simp only [Option.some.injEq,Prod.mk.injEq]at hs
   obtain⟨rfl,rfl⟩:=hs
   intro ι w args' hrel hl ha
   obtain rfl:=one_str (P:=Tryz.prog) (flat1 (by simp)) hl ha
   refine(Tryz.strconv_Itoa n h1 h2 w (tab10_at hrel h3)).mono ?_
   rintro e w' ⟨rfl,k,os,rfl⟩
   refine⟨ι,_,rfl,out_change hrel ⟨rfl,rfl,rfl,?_,fun j hj _=>?_⟩,.flat _ rfl⟩
   ·show w.heap.size≤(w.heap++os).size
    simp
   ·show(w.heap++os)[j]?=w.heap[j]?
    rw [Array.getElem?_append_left hj]
  ·cases hs
 ·cases hs
def Tab (H:LH):Prop:=2<H.ng∧Lib.TabIs Tryz.prog H.base "strings.asciiSpace" .u8 Lib.asciiSpaceTab
theorem tab_at {P:Program} {H:LH} {ι:Ren} {w:World} (hrel:Rel P H ι w) (h:Tab H):Lib.TabIs Tryz.prog w "strings.asciiSpace" .u8 Lib.asciiSpaceTab:=by
 have h2:=h.2
 unfold Lib.TabIs World.var? at h2⊢
 rw [show Tryz.prog.globalNamed "strings.asciiSpace" =some 2 by kernel_rfl]at h2⊢
 simp only [Option.bind_some]at h2⊢
 rw [pin_block hrel h.1]
 exact h2
open Classical in
noncomputable def specFields:Lg.Spec:=fun args H=>match args with
 | [.string s]=>if s.size<4294967281∧(∀(j:Nat) b,s.data.toList[j]?=some b→b.toNat<128)∧Tab H∧(Lib.fields s.data.toList).length≤maxLen then
   some (sl H.n (Lib.fields s.data.toList).length (Lib.fields s.data.toList).length,H.new ⟨(Lib.fields s.data.toList).map (fun l=>.string ⟨l.toArray⟩),9,true⟩)
  else none
 |_=>none
theorem ok_Fields:SpecOk Tryz.prog 105 specFields:=by
 intro args H v H' h
 refine .inl ⟨⟨_,Tryz.func105,rfl,by decide⟩,?_⟩
 unfold specFields at h
 split at h
 ·rename_i s
  split at h
  ·rename_i hc
   obtain⟨h1,h2,h3,h4⟩:=hc
   simp only [Option.some.injEq,Prod.mk.injEq]at h
   obtain⟨rfl,rfl⟩:=h
   exact callOk_row (flat1 rfl) (fun x hx=>by
    obtain⟨l,_,rfl⟩:=List.mem_map.1 hx
    rfl) (by kernel_rfl) (by simp) h4 (fun ι w hrel=>Tryz.strings_Fields s w h1 h2 (tab_at hrel h3))
  ·cases h
 ·cases h
def gTrimPrefix:List Value→Option Value
 | [.string s,.string p]=>some (.string ⟨(Lib.trimPrefix s.data.toList p.data.toList).toArray⟩)
 |_=>none
theorem ok_TrimPrefix:SpecOk Tryz.prog 68 (flatSpec gTrimPrefix):=specOk_flat ⟨_,Tryz.func68,rfl,by decide⟩ fun args v h=>by
 unfold gTrimPrefix at h
 split at h
 ·injection h with h;subst h
  exact⟨flat2 rfl rfl,rfl,fun w=>same_mono (Tryz.strings_TrimPrefix _ _ w)⟩
 ·cases h
def gTrimSuffix:List Value→Option Value
 | [.string s,.string p]=>if s.size≤9223372036854775807 then some (.string ⟨(Lib.trimSuffix s.data.toList p.data.toList).toArray⟩)else none
 |_=>none
theorem ok_TrimSuffix:SpecOk Tryz.prog 36 (flatSpec gTrimSuffix):=specOk_flat ⟨_,Tryz.func36,rfl,by decide⟩ fun args v h=>by
 unfold gTrimSuffix at h
 split at h
 ·split at h
  ·rename_i hs
   injection h with h;subst h
   exact⟨flat2 rfl rfl,rfl,fun w=>same_mono (Tryz.strings_TrimSuffix _ _ w hs)⟩
  ·cases h
 ·cases h
def gHasPrefix:List Value→Option Value
 | [.string s,.string p]=>some (.bool (Lib.hasPrefix s.data.toList p.data.toList))
 |_=>none
theorem ok_HasPrefix:SpecOk Tryz.prog 26 (flatSpec gHasPrefix):=specOk_flat ⟨_,Tryz.func26,rfl,by decide⟩ fun args v h=>by
 unfold gHasPrefix at h
 split at h
 ·injection h with h;subst h
  exact⟨flat2 rfl rfl,rfl,fun w=>same_mono (Tryz.strings_HasPrefix _ _ w)⟩
 ·cases h
open Classical in
noncomputable def gIndexAny:List Value→Option Value
 | [.string s,.string c]=>if s.size<4294967281∧c.size<4294967281∧asc c then some (.int .i64 (Lib.indexAny s.data.toList c.data.toList))else none
 |_=>none
theorem ok_IndexAny:SpecOk Tryz.prog 225 (flatSpec gIndexAny):=specOk_flat ⟨_,Tryz.func225,rfl,by decide⟩ fun args v h=>by
 unfold gIndexAny at h
 split at h
 ·split at h
  ·rename_i hs
   obtain⟨h1,h2,h4⟩:=hs
   injection h with h;subst h
   exact⟨flat2 rfl rfl,rfl,fun w=>idxAny_any _ _ w h1 h2 h4⟩
  ·cases h
 ·cases h
open Classical in
noncomputable def specIndexA:Lg.Spec:=fun args H=>match args with
 | [.string s,.string ⟨⟨[c]⟩⟩]=>some (.int .i64 (Lib.indexByte s.data.toList c),H)
 | [.string s,.string sub]=>if s.size<4294967281∧MaxL H then some (.int .i64 (Lib.index s.data.toList sub.data.toList),H)else none
 |_=>none
theorem ok_Index:SpecOk Tryz.prog 84 specIndexA:=by
 intro args H v H' hs
 refine .inl ⟨⟨_,Tryz.func84,rfl,by decide⟩,?_⟩
 unfold specIndexA at hs
 split at hs
 ·rename_i s c
  simp only [Option.some.injEq,Prod.mk.injEq]at hs
  obtain⟨rfl,rfl⟩:=hs
  intro ι w args' hrel hl ha
  obtain rfl:=one_str (P:=Tryz.prog) (flat2 (by simp) (by simp)) hl ha
  refine(Tryz.stringslite_Index_one s c w).mono ?_
  rintro e w' ⟨rfl,rfl⟩
  exact⟨ι,_,rfl,Out.refl hrel,.flat _ rfl⟩
 ·rename_i s sub _
  split at hs
  ·rename_i hc
   simp only [Option.some.injEq,Prod.mk.injEq]at hs
   obtain⟨rfl,rfl⟩:=hs
   intro ι w args' hrel hl ha
   obtain rfl:=one_str (P:=Tryz.prog) (flat2 (by simp) (by simp)) hl ha
   obtain⟨m,hm⟩:=max_at hrel hc.2
   refine(Tryz.stringslite_Index s sub m w hc.1 hm).mono ?_
   rintro e w' ⟨rfl,rfl⟩
   exact⟨ι,_,rfl,Out.refl hrel,.flat _ rfl⟩
  ·cases hs
 ·cases hs
def gLower:List Value→Option Value
 | [.string s]=>if s.size≤maxLen then some (.string ⟨(Tg.Lo.lower s.data.toList).toArray⟩)else none
 |_=>none
theorem ok_Lower:SpecOk Tryz.prog 283 (flatSpec gLower):=specOk_flat ⟨_,Tryz.func283,rfl,by decide⟩ fun args v h=>by
 unfold gLower at h
 split at h
 ·split at h
  ·rename_i hs
   injection h with h;subst h
   exact⟨flat1 rfl,rfl,fun w=>lower_w _ w hs⟩
  ·cases h
 ·cases h
def gRepeat:List Value→Option Value
 | [.string s,.int .i64 c]=>if 0≤c∧c≤9223372036854775807∧s.size*c.toNat≤140737488355328 then some (.string ⟨(Lib.repeatL s.data.toList c.toNat).toArray⟩)else none
 |_=>none
theorem ok_Repeat:SpecOk Tryz.prog 449 (flatSpec gRepeat):=specOk_flat ⟨_,Tryz.func449,rfl,by decide⟩ fun args v h=>by
 unfold gRepeat at h
 split at h
 ·rename_i s c
  split at h
  ·rename_i hs
   obtain⟨h0,h1,h2⟩:=hs
   injection h with h;subst h
   obtain⟨k,rfl⟩:=Int.eq_ofNat_of_zero_le h0
   exact⟨flat2 rfl rfl,rfl,fun w=>below_mono (Tryz.strings_Repeat s k w (by omega) h2)⟩
  ·cases h
 ·cases h
def gLz8:List Value→Option Value
 | [.int .u8 x]=>if 0≤x∧x≤255 then some (.int .i64 (8-(Lib.bitLen x.toNat:Int)))else none
 |_=>none
theorem ok_Lz8:SpecOk Tryz.prog 509 (flatSpec gLz8):=specOk_flat ⟨_,Tryz.func509,rfl,by decide⟩ fun args v h=>by
 unfold gLz8 at h
 split at h
 ·split at h
  ·rename_i hs
   injection h with h;subst h
   exact⟨flat1 rfl,rfl,fun w=>same_mono (Tryz.bits_LeadingZeros8 _ w hs.1 hs.2)⟩
  ·cases h
 ·cases h
noncomputable def specsStr:List (FuncId×Lg.Spec):= [
 (105,specFields),
 (449,flatSpec gRepeat),
 (509,flatSpec gLz8),
 (283,flatSpec gLower),
 (232,specContains),
 (35,specSplit),
 (106,specJoin),
 (37,specItoa),
 (74,specCopy),
 (56,specBStr),
 (222,flatSpec gIndexByte),
 (68,flatSpec gTrimPrefix),
 (36,flatSpec gTrimSuffix),
 (26,flatSpec gHasPrefix),
 (225,flatSpec gIndexAny),
 (84,specIndexA),
 ]
theorem str_ok: ∀p∈specsStr,SpecOk Tryz.prog p.1 p.2:=by
 intro p hp
 unfold specsStr at hp
 rcases List.mem_cons.1 hp with rfl|hp
 ·exact ok_Fields
 rcases List.mem_cons.1 hp with rfl|hp
 ·exact ok_Repeat
 rcases List.mem_cons.1 hp with rfl|hp
 ·exact ok_Lz8
 rcases List.mem_cons.1 hp with rfl|hp
 ·exact ok_Lower
 rcases List.mem_cons.1 hp with rfl|hp
 ·exact ok_Contains
 rcases List.mem_cons.1 hp with rfl|hp
 ·exact ok_Split
 rcases List.mem_cons.1 hp with rfl|hp
 ·exact ok_Join
 rcases List.mem_cons.1 hp with rfl|hp
 ·exact ok_Itoa
 rcases List.mem_cons.1 hp with rfl|hp
 ·exact ok_Copy
 rcases List.mem_cons.1 hp with rfl|hp
 ·exact ok_BStr
 rcases List.mem_cons.1 hp with rfl|hp
 ·exact ok_IndexByte
 rcases List.mem_cons.1 hp with rfl|hp
 ·exact ok_TrimPrefix
 rcases List.mem_cons.1 hp with rfl|hp
 ·exact ok_TrimSuffix
 rcases List.mem_cons.1 hp with rfl|hp
 ·exact ok_HasPrefix
 rcases List.mem_cons.1 hp with rfl|hp
 ·exact ok_IndexAny
 rcases List.mem_cons.1 hp with rfl|hp
 ·exact ok_Index
 cases hp
noncomputable def EJ:Ext:=extLL specsStr [295,296]
@[simp] theorem EJ_ch {n id k:Nat} :EJ.loud.ch n id k=chT n id k:=rfl
@[simp] theorem EJ_cv {s d:TypeId} :EJ.loud.cv s d=(s==9&&d==94):=id rfl
@[simp] theorem EJ_pm {n id k:Nat} :EJ.loud.pm n id k= []:=rfl
theorem extOk:ExtOk Tryz.prog EJ:=extL_ok str_ok
theorem tOk:TOk Tryz.prog (LC Tryz.prog EJ):=LC_ok extOk mixed
section
variable {H:LH} {s t p:List UInt8}
@[simp] theorem indexByte_l {c:UInt8} :LC Tryz.prog EJ 222 [str s,.int .u8 c.toNat] H=some (.int .i64 (Lib.indexByte s c),H):=LC_flat (g:=gIndexByte) rfl (by simp [gIndexByte,str])
@[simp] theorem trimPrefix_l:LC Tryz.prog EJ 68 [str s,str p] H=some (str (Lib.trimPrefix s p),H):=LC_flat (g:=gTrimPrefix) rfl (by simp [gTrimPrefix,str])
@[simp] theorem hasPrefix_l:LC Tryz.prog EJ 26 [str s,str p] H=some (.bool (Lib.hasPrefix s p),H):=LC_flat (g:=gHasPrefix) rfl (by simp [gHasPrefix,str])
theorem indexAny_l (h1:s.length<4294967281) (h2:p.length<4294967281) (h4:ascL p):LC Tryz.prog EJ 225 [str s,str p] H=some (.int .i64 (Lib.indexAny s p),H):=LC_flat (g:=gIndexAny) rfl (by
 unfold gIndexAny str
 dsimp only
 rw [if_pos ⟨by rw [ba_size];exact h1,by rw [ba_size];exact h2,asc_of h4⟩])
@[simp] theorem index1_l {c:UInt8} :LC Tryz.prog EJ 84 [str s,str [c]] H=some (.int .i64 (Lib.indexByte s c),H):=LC_ext (s:=specIndexA) rfl (by unfold specIndexA str;rfl)
theorem indexM_l {a b:UInt8} {p:List UInt8} (h:s.length<4294967281) (hm:MaxL H):LC Tryz.prog EJ 84 [str s,str (a::b::p)] H=some (.int .i64 (Lib.index s (a::b::p)),H):=LC_ext (s:=specIndexA) rfl (by
 unfold specIndexA str
 dsimp only
 rw [if_pos ⟨by rw [ba_size];exact h,hm⟩])
theorem contains_l (h:s.length<4294967281) (hm:p.length=1∨MaxL H):LC Tryz.prog EJ 232 [str s,str p] H=some (.bool (Lib.contains s p),H):=LC_ext (s:=specContains) rfl (by
 unfold specContains str
 dsimp only
 rw [if_pos ⟨by rw [ba_size];exact h,by rw [ba_size];exact hm⟩])
theorem split_l (h:s.length<4294967281) (h1:1≤p.length) (hm:MaxL H) (h2:Lib.countB ⟨s.toArray⟩ ⟨p.toArray⟩+1≤maxLen) (h3:(Lib.splitB ⟨p.toArray⟩ 0 (Lib.countB ⟨s.toArray⟩ ⟨p.toArray⟩) ⟨s.toArray⟩).length=Lib.countB ⟨s.toArray⟩ ⟨p.toArray⟩+1):
  LC Tryz.prog EJ 35 [str s,str p] H=some (sl H.n (Lib.countB ⟨s.toArray⟩ ⟨p.toArray⟩+1) (Lib.countB ⟨s.toArray⟩ ⟨p.toArray⟩+1),H.new ⟨(Lib.splitB ⟨p.toArray⟩ 0 (Lib.countB ⟨s.toArray⟩ ⟨p.toArray⟩) ⟨s.toArray⟩).map Value.string,9,true⟩):=LC_ext (s:=specSplit) rfl (by
 unfold specSplit str
 dsimp only
 rw [if_pos ⟨by rw [ba_size];exact h,by rw [ba_size];exact h1,hm,h2,h3⟩])
theorem join_l {l o n c:Nat} {b:LB} {xs:List (List UInt8)} (hb:H.get l=some b) (h0:n≠0) (hc:n≤c) (hn:n≤140737488355328) (hx:xs.length=n) (hcs:(b.cells.drop o).take n=xs.map str) (hl:(Lib.join xs p).length≤140737488355328):
  LC Tryz.prog EJ 106 [.slice (some ⟨l,o,none⟩) n c,str p] H=some (str (Lib.join xs p),H):=LC_ext (s:=specJoin) rfl (by
 have hex: ∃(b:LB) (xs:List (List UInt8)),H.get l=some b∧n≠0∧n≤c∧n≤140737488355328∧xs.length=n∧(b.cells.drop o).take n=xs.map str∧(Lib.join xs (⟨p.toArray⟩:ByteArray).data.toList).length≤140737488355328:=⟨b,xs,hb,h0,hc,hn,hx,hcs,hl⟩
 have e:Classical.choose (Classical.choose_spec hex)=xs:=by
  obtain⟨g1,_,_,_,_,g6,_⟩:=Classical.choose_spec (Classical.choose_spec hex)
  have hbe:=congrArg LB.cells (Option.some.inj (hb.symm.trans g1))
  exact(map_str_inj (hcs.symm.trans ((congrArg (fun z=>(z.drop o).take n) hbe).trans g6))).symm
 show specJoin [.slice (some ⟨l,o,none⟩) n c,.string ⟨p.toArray⟩] H=_
 unfold specJoin
 simp only
 rw [dif_pos hex,e])
theorem itoa_l {n:Int} (h1: -9223372036854775808≤n) (h2:n≤9223372036854775807) (ht:Tab10 H):LC Tryz.prog EJ 37 [.int .i64 n] H=some (str (Lib.itoa n),H):=LC_ext (s:=specItoa) rfl (by
 unfold specItoa
 dsimp only
 rw [if_pos ⟨h1,h2,ht⟩])
end
end Go.Proofs.YteeiipildjgdbaaGreatDoor
namespace Go.Lg
open Go.Tg Go.RowKit
structure Kp (p:Nat) (v:Value) (H:LH) (v':Value) (H':LH):Prop where
 n:H.n≤H'.n
 keep: ∀k,k<H.n→k≠p→offRow v k→H'.get k=H.get k
 off: ∀k,k<H.n→k≠p→offRow v k→offRow v' k
 base:H'.base=H.base
 ng:H'.ng=H.ng
section
variable {p:Nat} {v v' v1:Value} {H H' H1:LH} {B:LB}
theorem Kp.refl:Kp p v H v H:=⟨Nat.le_refl _,fun _ _ _ _=>rfl,fun _ _ _ h=>h,rfl,rfl⟩
theorem Kp.trans (h:Kp p v H v1 H1) (k:Kp p v1 H1 v' H'):Kp p v H v' H':=
 ⟨Nat.le_trans h.n k.n,fun l hl hp ho=>(k.keep l (Nat.lt_of_lt_of_le hl h.n) hp (h.off l hl hp ho)).trans (h.keep l hl hp ho),
  fun l hl hp ho=>k.off l (Nat.lt_of_lt_of_le hl h.n) hp (h.off l hl hp ho),k.base.trans h.base,k.ng.trans h.ng⟩
theorem Kp.set (ho: ∀k,offRow v k→offRow v' k):Kp p v H v' (H.set p B):=⟨Nat.le_refl _,fun _ _ hp _=>get_set_ne hp,fun k _ _ h=>ho k h,rfl,rfl⟩
theorem Kp.new:Kp p v H v (H.new B):=⟨Nat.le_succ _,fun _ hl _ _=>get_new_ne (by omega),fun _ _ _ h=>h,rfl,rfl⟩
theorem Kp.le (h:Kp p v H1 v' H') (hn:H.n≤H1.n) (hp:H.n≤p) (hv: ∀k,k<H.n→offRow v k) (hg: ∀k,k<H.n→H1.get k=H.get k):H.le H':=
 ⟨Nat.le_trans hn h.n,fun l hl=>(h.keep l (by omega) (by omega) (hv l hl)).trans (hg l hl)⟩
end
end Go.Lg
namespace Go.Proofs.YteeiipildjgdbaaGreatDoor
open Go.Lg Go.Tg
structure Bld (N:Nat) (H:LH) (b:Nat) (l:List UInt8) (v:Value):Prop where
 get: ∃p,H.get b=some ⟨[p,v],96,true⟩∧(p=.pointer none∨p=ptr b 0)
 row:RowN N H 5 1 v l.length (l.map bv)
 full:Full v
 off:offRow v b
 lt:b<H.n
 N:N≤H.n
 nil:l= []→v=.slice none 0 0
section
variable {H:LH} {N b:Nat} {l s:List UInt8} {v:Value} {c:UInt8}
theorem copy_l (h:Bld N H b l v):LC Tryz.prog EJ 74 [ptr b 0] H=some (.tuple #[],H.set b ⟨[ptr b 0,v],96,true⟩)∨(H.get b=some ⟨[ptr b 0,v],96,true⟩∧LC Tryz.prog EJ 74 [ptr b 0] H=some (.tuple #[],H)):=by
 obtain⟨p,hg,hp⟩:=h.get
 rcases hp with rfl|rfl
 ·left
  refine LC_ext (s:=specCopy) rfl ?_
  unfold specCopy
  simp only [hg]
  rw [if_pos trivial]
 ·right
  refine⟨hg,LC_ext (s:=specCopy) rfl ?_⟩
  unfold specCopy
  simp only [hg]
  rw [if_pos trivial]
theorem copy_ex (h:Bld N H b l v): ∃H1,LC Tryz.prog EJ 74 [ptr b 0] H=some (.tuple #[],H1)∧H1.get b=some ⟨[ptr b 0,v],96,true⟩∧H1.n=H.n∧(∀k,k≠b→H1.get k=H.get k)∧H1.base=H.base∧H1.ng=H.ng:=by
 rcases copy_l h with e|⟨hg,e⟩
 ·exact⟨_,e,by simp,by simp,fun k hk=>get_set_ne hk,rfl,rfl⟩
 ·exact⟨_,e,hg,rfl,fun _ _=>rfl,rfl,rfl⟩
theorem row_other {H1:LH} {v:Value} {n:Nat} {xs:List Value} (h:RowN N H 5 1 v n xs) (ho:offRow v b) (hn:H1.n=H.n) (hk: ∀k,k≠b→H1.get k=H.get k):RowN N H1 5 1 v n xs:=by
 refine⟨h.1,?_⟩
 rcases h.2 with h2|⟨k,c,rest,rfl,h1,h2,h3,h4,h5⟩
 ·exact .inl h2
 ·refine .inr ⟨k,c,rest,rfl,h1,by omega,?_,h4,h5⟩
  rw [hk k (fun e=>ho n c (by rw [e]))];exact h3
theorem bv_cells (l:List UInt8):(l.map bv).all cellB=true:=by simp [bv]
theorem bld_trunc {H3:LH} {v' u:Value} {l':List UInt8} (h:Bld N H b l v) (h3:Bld N H3 b l' v') (hk:Kp b v H v' H3): ∃H4,trunc H (u,H3)=(u,H4)∧Bld N H4 b l' v'∧Kp b v H v' H4:=by
 rcases trunc_or u H H3 with e|⟨e,_,hle⟩
 ·exact⟨H3,e,h3,hk⟩
 ·refine⟨H,e,?_⟩
  obtain⟨p,hg,hp⟩:=h.get
  obtain⟨p',hg',hp'⟩:=h3.get
  rw [hle.2 b h.lt,hg]at hg'
  injection hg' with hg'
  injection hg' with hg'
  simp only [List.cons.injEq,and_true]at hg'
  obtain⟨rfl,rfl⟩:=hg'
  refine⟨⟨⟨p,hg,hp⟩,⟨h3.row.1,?_⟩,h.full,h.off,h.lt,h.N,h3.nil⟩,Kp.refl⟩
  rcases h3.row.2 with h2|⟨k,c,rest,rfl,g1,g2,g3,g4,g5⟩
  ·exact .inl h2
  ·have hkn:k<H.n:=by
    rcases h.row.2 with⟨h5,_⟩|⟨k',c',rest',h5,_,h6,_⟩
    ·cases h5
    ·injection h5 with h5;injection h5 with h5;injection h5 with h5;omega
   exact .inr ⟨k,c,rest,rfl,g1,hkn,by rw [←hle.2 k hkn];exact g3,g4,g5⟩
theorem wstr_ex (h:Bld N H b l v) (hlen:l.length+s.length≤maxElems):
  ∃v' H',LC Tryz.prog EJ 53 [ptr b 0,str s] H=some (.tuple #[.int .i64 s.length,.nilIface],H')∧Bld N H' b (l++s) v'∧Kp b v H v' H':=by
 obtain⟨H1,hc,hg1,hn1,hk1,hb1,hng1⟩:=copy_ex h
 have hrow1:=row_other h.row h.off hn1 hk1
 obtain⟨v',H2,ha,hr2,hkept,hf⟩:=hrow1.app (t:=94) (new:=s.map bv) (m:=s.length) Tryz.underlying94 (by kernel_rfl) (bv_cells s) (by simp) hlen (by rw [hn1];exact h.N) (.inr h.full)
 have hblt:b<H1.n:=by rw [hn1];exact h.lt
 have hg2:H2.get b=some ⟨[ptr b 0,v],96,true⟩:=by rw [hkept.get b hblt h.off];exact hg1
 have hap:lbuiltin Tryz.prog .append [94,9] [v,str s] H1=some (v',H2):=by
  rw [lbuiltin_appends (e:=5) (by decide) Tryz.underlying94 Tryz.underlying9 (by kernel_rfl) (by kernel_rfl) (by kernel_rfl)]
  exact ha
 have hcell:cellB v'=true:=hr2.cell
 have hoff':=hkept.off b hblt h.off
 obtain⟨r,hr,h1,h2⟩:=LC_runs (P:=Tryz.prog) (E:=EJ) (f:=53) rfl Tryz.func53 rfl (by kernel_rfl) (H:=H) (args:= [ptr b 0,str s]) (Q:=fun r=>r.1=.tuple #[.int .i64 s.length,.nilIface]∧r.2=H2.set b ⟨[ptr b 0,v'],96,true⟩) (by
  simp [hc,hg1,hap,hg2,hcell])
 obtain⟨u,H3⟩:=r
 simp only at h1 h2
 subst h1 h2
 have hset:Bld N (H2.set b ⟨[ptr b 0,v'],96,true⟩) b (l++s) v':=by
  refine⟨⟨_,get_set,.inr rfl⟩,?_,hf h.full,hoff',Nat.lt_of_lt_of_le hblt hkept.le,?_,?_⟩
  ·have:=row_other (b:=b) (H1:=H2.set b ⟨[ptr b 0,v'],96,true⟩) hr2 hoff' rfl (fun k hk=>get_set_ne hk)
   rw [List.length_append,List.map_append];exact this
  ·exact Nat.le_trans h.N (by rw [←hn1];exact hkept.le)
  ·intro e
   obtain⟨e1,e2⟩:=List.append_eq_nil_iff.1 e
   have hv:=h.nil e1
   subst hv e2
   rw [List.map_nil,List.length_nil,lapp_nil0 (s:=1) Tryz.underlying94 (by kernel_rfl)]at ha
   simp only [Option.some.injEq,Prod.mk.injEq]at ha
   exact ha.1.symm
 have hkp:Kp b v H v' (H2.set b ⟨[ptr b 0,v'],96,true⟩):=by
  refine⟨by rw [←hn1];exact hkept.le,fun k hk hkb ho=>?_,fun k hk hkb ho=>hkept.off k (by omega) ho,by simp [hkept.base,hb1],by simp [hkept.ng,hng1]⟩
  rw [get_set_ne hkb,hkept.get k (by omega) ho,hk1 k hkb]
 obtain⟨H4,e1,e2,e3⟩:=bld_trunc h hset hkp
 exact⟨_,H4,by rw [hr,e1],e2,e3⟩
theorem wbyte_ex (h:Bld N H b l v) (hlen:l.length+1≤maxElems):
  ∃v' H',LC Tryz.prog EJ 108 [ptr b 0,.int .u8 c.toNat] H=some (.nilIface,H')∧Bld N H' b (l++ [c]) v'∧Kp b v H v' H':=by
 obtain⟨H1,hc,hg1,hn1,hk1,hb1,hng1⟩:=copy_ex h
 have hrow1:=row_other h.row h.off hn1 hk1
 have hblt:b<H1.n:=by rw [hn1];exact h.lt
 have hrow2:RowN N (H1.new ⟨[.int .u8 c.toNat],5,true⟩) 5 1 v l.length (l.map bv):=hrow1.keep (Nat.le_succ _) (fun k _ _ hk=>get_new_ne (by omega))
 obtain⟨v',H2,ha,hr2,hkept,hf⟩:=hrow2.app (t:=94) (new:= [c].map bv) (m:=1) Tryz.underlying94 (by kernel_rfl) (bv_cells [c]) (by simp) hlen (by rw [n_new,hn1];have:=h.N;omega) (.inr h.full)
 have hg2:H2.get b=some ⟨[ptr b 0,v],96,true⟩:=by rw [hkept.get b (by rw [n_new];omega) h.off,get_new_ne (by omega)];exact hg1
 simp only [List.map_cons,List.map_nil,bv]at ha
 have hcell:cellB v'=true:=hr2.cell
 have hoff':=hkept.off b (by rw [n_new];omega) h.off
 obtain⟨r,hr,h1,h2⟩:=LC_runs (P:=Tryz.prog) (E:=EJ) (f:=108) rfl Tryz.func108 rfl (by kernel_rfl) (H:=H) (args:= [ptr b 0,.int .u8 c.toNat]) (Q:=fun r=>r.1=.nilIface∧r.2=H2.set b ⟨[ptr b 0,v'],96,true⟩) (by
  have hbn:b≠H1.n:=by omega
  simp [hc,hg1,ha,hg2,hcell,hbn])
 obtain⟨u,H3⟩:=r
 simp only at h1 h2
 subst h1 h2
 have hle2:H1.n+1≤H2.n:=hkept.le
 have hset:Bld N (H2.set b ⟨[ptr b 0,v'],96,true⟩) b (l++ [c]) v':=by
  refine⟨⟨_,get_set,.inr rfl⟩,?_,hf h.full,hoff',by rw [n_set];omega,?_,fun e=>by simp at e⟩
  ·have:=row_other (b:=b) (H1:=H2.set b ⟨[ptr b 0,v'],96,true⟩) hr2 hoff' rfl (fun k hk=>get_set_ne hk)
   rw [List.length_append,List.map_append];exact this
  ·have:=h.N;rw [n_set];omega
 have hkp:Kp b v H v' (H2.set b ⟨[ptr b 0,v'],96,true⟩):=by
  refine⟨by rw [n_set];omega,fun k hk hkb ho=>?_,fun k hk hkb ho=>hkept.off k (by rw [n_new];omega) ho,by simp [hkept.base,hb1],by simp [hkept.ng,hng1]⟩
  rw [get_set_ne hkb,hkept.get k (by rw [n_new];omega) ho,get_new_ne (by omega),hk1 k hkb]
 obtain⟨H4,e1,e2,e3⟩:=bld_trunc h hset hkp
 exact⟨_,H4,by rw [hr,e1],e2,e3⟩
theorem bstr_ex (h:Bld N H b l v) (hm:l.length≤maxLen): ∃H',LC Tryz.prog EJ 56 [ptr b 0] H=some (str l,H')∧H'.n=H.n∧ ∀k,k<N→H'.get k=H.get k:=by
 obtain⟨p,hg,hp⟩:=h.get
 rcases h.row.2 with⟨rfl,h0⟩|⟨k,c,rest,rfl,g1,g2,g3,g4,g5⟩
 ·have hl:l= []:=List.eq_nil_of_length_eq_zero h0
  subst hl
  refine⟨H,LC_ext (s:=specBStr) rfl ?_,rfl,fun _ _=>rfl⟩
  unfold specBStr
  simp only [hg]
 ·rcases Nat.eq_zero_or_pos l.length with h0|h0
  ·exfalso
   have:=h.nil (List.eq_nil_of_length_eq_zero h0)
   cases this
  ·refine⟨H.kill k,LC_ext (s:=specBStr) rfl ?_,rfl,fun j hj=>get_kill_ne (by omega)⟩
   have htk:(l.map bv++rest).take l.length=l.map bv:=by simp
   unfold specBStr
   simp only [hg,g3]
   rw [if_pos ⟨l,by intro e;rw [e]at h0;simp at h0,htk,rfl,g4,hm,rfl⟩,htk,lbs_map]
   rfl
end
section
variable {H:LH} {b:UInt8} {s p:List UInt8}
theorem own_l:LC Tryz.prog EJ 229 [str s] H=some (.int .i64 (Tg.Ur.own s),H):=by
 refine LC_pure rfl Tryz.func229 rfl (by kernel_rfl) rfl ?_
 unfold Tg.Ur.own
 by_cases h1:s= [104,116,116,112]
 ·subst h1;simp
 by_cases h2:s= [119,115]
 ·subst h2;simp
 by_cases h3:s= [104,116,116,112,115]
 ·subst h3;simp
 by_cases h4:s= [119,115,115]
 ·subst h4;simp
 simp [h1,h2,h3,h4]
theorem digit_cl:LC Tryz.prog EJ 120 [.int .u8 b.toNat] H=some (.bool (Tg.Ur.isD b),H):=by
 refine LC_pure rfl Tryz.func120 rfl (by kernel_rfl) rfl ?_
 unfold Tg.Ur.isD
 by_cases h1:(48:Int)≤b.toNat<;>by_cases h2:(b.toNat:Int)≤57<;>simp [h1,h2]
theorem Digit_cl:LC Tryz.prog EJ 165 [.int .u8 b.toNat] H=some (.bool (Tg.Ur.isD b),H):=by
 refine LC_pure rfl Tryz.func165 rfl (by kernel_rfl) rfl ?_
 simp [digit_cl]
theorem wrap8 {n:Int} :IntKind.u8.wrap n=n%256:=IntKind.wrap_u8 _
theorem hex_cl:LC Tryz.prog EJ 95 [.int .u8 b.toNat] H=some (.tuple #[.int .i64 ((Tg.Ur.hx b).getD 0:Nat),.bool (Tg.Ur.hx b).isSome],H):=by
 refine LC_pure rfl Tryz.func95 rfl (by kernel_rfl) rfl ?_
 have hlt:=b.toNat_lt
 have hdl:=digit_cl (H:=H) (b:=b)
 unfold Tg.Ur.isD at hdl
 unfold Tg.Ur.hx
 have w: ∀x:Int,0≤x→x≤255→IntKind.u8.wrap x=x:=fun x h1 h2=>by rw [wrap8];omega
 have w6: ∀x:Int,0≤x→x≤265→IntKind.i64.wrap x=x:=fun x h1 h2=>wrap64_in (by omega) (by omega)
 by_cases h1:(48:Int)≤b.toNat∧(b.toNat:Int)≤57
 ·have e:=w ((b.toNat:Int)-48) (by omega) (by omega)
  have e6:=w6 ((b.toNat:Int)-48) (by omega) (by omega)
  have e2:((b.toNat-48:Nat):Int)=(b.toNat:Int)-48:=by omega
  simp [h1]at hdl
  simp [hdl,h1,e,e6,e2]
 ·have hd:(decide ((48:Int)≤b.toNat)&&decide ((b.toNat:Int)≤57))=false:=by
   rw [Bool.and_eq_false_iff,decide_eq_false_iff_not,decide_eq_false_iff_not];omega
  rw [hd]at hdl
  rw [if_neg h1]
  by_cases h3:(97:Int)≤b.toNat
  ·by_cases h4:(b.toNat:Int)≤102
   ·have e:=w ((b.toNat:Int)-97) (by omega) (by omega)
    have e6:=w6 ((b.toNat:Int)-97) (by omega) (by omega)
    have e7:=w6 ((b.toNat:Int)-97+10) (by omega) (by omega)
    have e2:((b.toNat-87:Nat):Int)=(b.toNat:Int)-97+10:=by omega
    simp [hdl,h3,h4,e,e6,e7,e2]
   ·have h5:(65:Int)≤b.toNat:=by omega
    have h6: ¬(b.toNat:Int)≤70:=by omega
    simp [hdl,h3,h4,h5,h6]
  ·by_cases h5:(65:Int)≤b.toNat
   ·by_cases h6:(b.toNat:Int)≤70
    ·have e:=w ((b.toNat:Int)-65) (by omega) (by omega)
     have e6:=w6 ((b.toNat:Int)-65) (by omega) (by omega)
     have e7:=w6 ((b.toNat:Int)-65+10) (by omega) (by omega)
     have e2:((b.toNat-55:Nat):Int)=(b.toNat:Int)-65+10:=by omega
     simp [hdl,h3,h5,h6,e,e6,e7,e2]
    ·simp [hdl,h3,h5,h6]
   ·simp [hdl,h3,h5]
theorem great_cl:LC Tryz.prog EJ 256 [.int .u8 b.toNat] H=some (.bool (decide ((65:Int)≤b.toNat)&&decide ((b.toNat:Int)≤90)),H):=by
 refine LC_pure rfl Tryz.func256 rfl (by kernel_rfl) rfl ?_
 by_cases h1:(65:Int)≤b.toNat<;>by_cases h2:(b.toNat:Int)≤90<;>simp [h1,h2]
theorem low_cl:LC Tryz.prog EJ 298 [.int .u8 b.toNat] H=some (.int .u8 (Tg.Lo.low b).toNat,H):=by
 refine LC_pure rfl Tryz.func298 rfl (by kernel_rfl) rfl ?_
 unfold Tg.Lo.low
 have hlt:=b.toNat_lt
 by_cases h1:(65:Int)≤b.toNat<;>by_cases h2:(b.toNat:Int)≤90
 ·have e:(b+32).toNat=b.toNat+32:=by rw [UInt8.toNat_add];show(b.toNat+32)%256=_;omega
  have hw:IntKind.u8.wrap ((b.toNat:Int)+32)=((b+32).toNat:Int):=by rw [wrap8,e];omega
  simp [great_cl,h1,h2,hw]
 all_goals simp [great_cl,h1,h2]
theorem wrapI {x:Int} (h1: -9223372036854775808≤x) (h2:x≤9223372036854775807):IntKind.i64.wrap x=x:=wrap64_in h1 h2
theorem at_in {s:List UInt8} {i:Nat} (h:i<s.length):at_ s (i:Int)=s[i]:=by
 unfold at_
 rw [show((i:Nat):Int).toNat=i by omega,List.getD_eq_getElem?_getD,List.getElem?_eq_getElem h];rfl
theorem count_cl {g:FuncId} {q:UInt8→Bool} (hg: ∀(b:UInt8) (H:LH),LC Tryz.prog EJ g [.int .u8 b.toNat] H=some (.bool (q b),H)) (hs:s.length≤9223372036854775806):
  LC Tryz.prog EJ 220 [str s,.func (.func g) #[] #[]] H=some (.int .i64 (s.countP q:Nat),H):=by
 refine LC_pure rfl Tryz.func220 rfl (by kernel_rfl) rfl ?_
 have hfn:=lbin_fn_ne (g:=g) (f:=#[]) (cp:=#[]) Tryz.underlying162
 simp
 refine loop_ind (fun(i:Nat) fr' H'=>fr' 0=str s∧fr' 1=.func (.func g) #[] #[]∧fr' 5=.int .i64 ((s.take i).countP q:Nat)∧fr' 6=.int .i64 i∧i≤s.length∧H'=H) (fun i=>s.length-i) 0 (by simp) ?_
 rintro i fr' H' ⟨h0,h1,h5,h6,hi,rfl⟩ ih
 by_cases hlt:i<s.length
 ·have hat:=at_in hlt
  have ht:s.take (i+1)=s.take i++ [s[i]]:=List.take_succ_eq_append_getElem hlt
  have hw:IntKind.i64.wrap ((i:Int)+1)=((i+1:Nat):Int):=by rw [wrapI (by omega) (by omega)];omega
  have hle:(s.take i).countP q≤i:=Nat.le_trans List.countP_le_length (by simp;omega)
  have hw2:IntKind.i64.wrap (((s.take i).countP q:Nat)+1:Int)=(((s.take i).countP q+1:Nat):Int):=by rw [wrapI (by omega) (by omega)];omega
  have hn:(s.take (i+1)).countP q=(s.take i).countP q+if q s[i]=true then 1 else 0:=by rw [ht,List.countP_append];simp [List.countP_cons]
  generalize (s.take i).countP q=m at*
  generalize hi1:i+1=i1 at*
  cases hq:q s[i]with
  |true=>
   rw [hq,if_pos rfl]at hn
   generalize hm1:m+1=m1 at*
   simp [hfn,h0,h1,h5,h6,hlt,hat,hg,hq,hw,hw2]
   exact ih i1 _ _ (by omega) ⟨by simp [h0],by simp [h1],by simp [hn],by simp,by omega,rfl⟩
  |false=>
   rw [hq,if_neg (by simp)]at hn
   simp [hfn,h0,h1,h5,h6,hlt,hat,hg,hq,hw]
   exact ih i1 _ _ (by omega) ⟨by simp [h0],by simp [h1],by simp [hn,h5],by simp,by omega,rfl⟩
 ·have e:s.take i=s:=List.take_of_length_le (by omega)
  rw [e]at h5
  simp [hfn,h0,h1,h5,h6,hlt]
theorem all_cl {g:FuncId} {q:UInt8→Bool} (hg: ∀(b:UInt8) (H:LH),LC Tryz.prog EJ g [.int .u8 b.toNat] H=some (.bool (q b),H)) (hs:s.length≤9223372036854775806):
  LC Tryz.prog EJ 195 [str s,.func (.func g) #[] #[]] H=some (.bool (s.all q),H):=by
 refine LC_pure rfl Tryz.func195 rfl (by kernel_rfl) rfl ?_
 have e:decide (s.countP q=s.length)=s.all q:=by
  rw [Bool.eq_iff_iff,decide_eq_true_eq,List.countP_eq_length,List.all_eq_true]
 have e2:(((s.countP q:Nat):Int)=(s.length:Int))=(s.countP q=s.length):=by apply propext;omega
 rw [←e]
 simp [count_cl hg hs,e2]
theorem low_eq {a b:UInt8} :(((Tg.Lo.low a).toNat:Int)=((Tg.Lo.low b).toNat:Int))=(Tg.Lo.low a=Tg.Lo.low b):=by
 apply propext
 constructor
 ·intro h;exact UInt8.toNat_inj.1 (by omega)
 ·intro h;rw [h]
theorem same_cl (hs:s.length≤9223372036854775806):LC Tryz.prog EJ 299 [str s,str p] H=some (.bool (decide (Tg.Lo.lower s=Tg.Lo.lower p)),H):=by
 refine LC_pure rfl Tryz.func299 rfl (by kernel_rfl) rfl ?_
 by_cases hl:s.length=p.length
 ·have q1:((s.length:Int)=(p.length:Int))=True:=eq_true (by omega)
  refine runs_cut 2 (fun fr' H'=>fr' 0=str s∧fr' 1=str p∧H'=H) ?_ (fun K hK=>?_) rfl
  ·rintro fr' H' ⟨h0,h1,rfl⟩
   simp [h0,h1]
   refine loop_ind (fun(i:Nat) fr2 H2=>fr2 0=str s∧fr2 1=str p∧fr2 12=.int .i64 s.length∧fr2 13=.int .i64 i∧i≤s.length∧Tg.Lo.lower (s.take i)=Tg.Lo.lower (p.take i)∧H2=H') (fun i=>s.length-i) 0 ⟨by simp [h0],by simp [h1],by simp,by simp,by simp,by simp,rfl⟩ ?_
   rintro i fr2 H2 ⟨g0,g1,g12,g13,hi,he,rfl⟩ ih
   by_cases hlt:i<s.length
   ·have hlp:i<p.length:=by omega
    have a1:=at_in hlt
    have a2:=at_in hlp
    have hw:IntKind.i64.wrap ((i:Int)+1)=((i+1:Nat):Int):=by rw [wrapI (by omega) (by omega)];omega
    have t1:s.take (i+1)=s.take i++ [s[i]]:=List.take_succ_eq_append_getElem hlt
    have t2:p.take (i+1)=p.take i++ [p[i]]:=List.take_succ_eq_append_getElem hlp
    have hle:=@low_eq s[i] p[i]
    by_cases hc:Tg.Lo.low s[i]=Tg.Lo.low p[i]
    ·have qc:=eq_true hc
     rw [qc]at hle
     have hn:Tg.Lo.lower (s.take (i+1))=Tg.Lo.lower (p.take (i+1)):=by
      rw [t1,t2];unfold Tg.Lo.lower at he⊢;rw [List.map_append,List.map_append,he];simp [hc]
     have hc':=congrArg UInt8.toNat hc
     generalize hi1:i+1=i1 at*
     simp [g0,g1,g12,g13,hlt,hlp,a1,a2,low_cl,hle,hc,hw]
     exact ih i1 _ _ (by omega) ⟨by simp [g0],by simp [g1],by simp [g12],by simp,by omega,hn,rfl⟩
    ·have qc:=eq_false hc
     rw [qc]at hle
     have hne: ¬Tg.Lo.lower s=Tg.Lo.lower p:=by
      intro h
      have:=congrArg (fun l=>l[i]?) h
      simp [Tg.Lo.lower,hlt,hlp]at this
      exact hc this
     simp [g0,g1,g12,g13,hlt,hlp,a1,a2,low_cl,hle,hc,hne]
   ·have e1:s.take i=s:=List.take_of_length_le (by omega)
    have e2:p.take i=p:=List.take_of_length_le (by omega)
    rw [e1,e2]at he
    simp [g0,g1,g12,g13,hlt,he]
  ·simp [q1]
   exact hK _ _ ⟨by simp,by simp,rfl⟩
 ·have q1:((s.length:Int)=(p.length:Int))=False:=eq_false (by omega)
  have hne: ¬Tg.Lo.lower s=Tg.Lo.lower p:=by
   intro h
   have:=congrArg List.length h
   simp [Tg.Lo.lower]at this
   exact hl this
  simp [q1,hne]
theorem begins_cl (hs:s.length≤9223372036854775806):LC Tryz.prog EJ 284 [str s,str p] H=some (.bool (decide (Tg.Lo.lower (s.take p.length)=Tg.Lo.lower p)),H):=by
 refine LC_pure rfl Tryz.func284 rfl (by kernel_rfl) rfl ?_
 by_cases hl:p.length≤s.length
 ·have q1:((p.length:Int)≤(s.length:Int))=True:=eq_true (by omega)
  have h1:=same_cl (H:=H) (s:=s.take p.length) (p:=p) (by simp;omega)
  simp [q1,h1]
 ·have q1:((p.length:Int)≤(s.length:Int))=False:=eq_false (by omega)
  have hne: ¬Tg.Lo.lower (s.take p.length)=Tg.Lo.lower p:=by
   intro h
   have:=congrArg List.length h
   simp [Tg.Lo.lower]at this
   omega
  simp [q1,hne]
end
end Go.Proofs.YteeiipildjgdbaaGreatDoor
namespace Tg.Ur
theorem pts_nil (n:Nat):pts [] n=n:=by rw [pts]
theorem pts_dot (r:List UInt8) (n:Nat):pts (46::r) n=pts r (n+1):=by rw [pts]
theorem pts_cons (b:UInt8) (r:List UInt8) (n:Nat) (h:b≠46):pts (b::r) n=if Tg.Lo.lower ((b::r).take 3)= [37,50,101]then pts (r.drop 2) (n+1)else 0:=by
 rw [pts]
 intro h2;exact h h2
end Tg.Ur
namespace Go.Proofs.YteeiipildjgdbaaGreatDoor
open Go.Lg Go.Tg
section
variable {H:LH} {b:UInt8} {s p:List UInt8}
theorem points_cl (hs:s.length≤1048576):LC Tryz.prog EJ 263 [str s] H=some (.int .i64 (Tg.Ur.pts s 0:Nat),H):=by
 refine LC_pure rfl Tryz.func263 rfl (by kernel_rfl) rfl ?_
 simp
 refine loop_ind (fun(u:List UInt8) fr' H'=>fr' 0=str u∧(∃n:Nat,fr' 3=.int .i64 n∧Tg.Ur.pts s 0=Tg.Ur.pts u n∧n+u.length≤1048576)∧H'=H) (fun u=>u.length) s ⟨by simp,⟨0,by simp,rfl,by omega⟩,rfl⟩ ?_
 rintro u fr' H' ⟨h0,⟨n,h3,hp,hl⟩,rfl⟩ ih
 cases u with
 |nil=>
  rw [Tg.Ur.pts_nil]at hp
  simp [h0,h3,hp]
 |cons c r=>
  have hat:at_ (c::r) 0=c:=rfl
  have hw:IntKind.i64.wrap ((n:Int)+1)=((n+1:Nat):Int):=by rw [wrapI (by simp at hl;omega) (by simp at hl;omega)];omega
  have q0:=eq_true (show(0:Int)<(r.length:Int)+1 by omega)
  have q1:=eq_true (show(1:Int)≤(r.length:Int)+1 by omega)
  by_cases h46:c=46
  ·subst h46
   rw [Tg.Ur.pts_dot]at hp
   generalize hn1:n+1=n1 at*
   simp [h0,h3,hat,hw,q0,q1]
   exact ih r _ _ (by simp) ⟨by simp,⟨n1,by simp,hp,by simp at hl;omega⟩,rfl⟩
  ·have hb:=begins_cl (H:=H') (s:=c::r) (p:= [37,50,101]) (by simp at hl⊢;omega)
   rw [Tg.Ur.pts_cons c r n h46]at hp
   have e3:Tg.Lo.lower [37,50,101]= [37,50,101]:=by decide
   rw [e3,show([37,50,101]:List UInt8).length=3 from rfl]at hb
   by_cases hd:Tg.Lo.lower ((c::r).take 3)= [37,50,101]
   ·rw [if_pos hd]at hp
    have hlen:3≤(c::r).length:=by
     have:=congrArg List.length hd
     simp [Tg.Lo.lower]at this⊢;omega
    have q3:=eq_true (show(3:Int)≤(r.length:Int)+1 by simp at hlen;omega)
    have hdd:(c::r).drop 3=r.drop 2:=rfl
    rw [decide_eq_true hd]at hb
    generalize hn1:n+1=n1 at*
    simp [h0,h3,hat,h46,hb,hw,q0,q3]
    exact ih (r.drop 2) _ _ (by simp;omega) ⟨by simp,⟨n1,by simp,hp,by simp at hl⊢;omega⟩,rfl⟩
   ·rw [if_neg hd]at hp
    rw [decide_eq_false hd]at hb
    simp [h0,h3,hat,h46,hb,q0,hp]
end
end Go.Proofs.YteeiipildjgdbaaGreatDoor
namespace Tg.Ur
def escP (s:List UInt8):List UInt8×Bool:=
 match s with
 |37::x::y::_=>([37,hd16 ((hx x).getD 0),hd16 ((hx y).getD 0)],(hx x).isSome&&(hx y).isSome)
 |_=>([],false)
theorem esc_of (s:List UInt8):esc s=if(escP s).2 then some (escP s).1 else Option.none:=by
 unfold esc escP
 split
 ·rename_i x y r
  cases h1:hx x<;>cases h2:hx y<;>simp [h1,h2]
 ·simp
theorem hx_lt {b:UInt8} {n:Nat} (h:hx b=some n):n<16:=by
 unfold hx at h
 split at h
 ·injection h with h;omega
 ·split at h
  ·injection h with h;omega
  ·split at h
   ·injection h with h;omega
   ·cases h
theorem hxD_lt (b:UInt8):(hx b).getD 0<16:=by
 cases h:hx b with
 |none=>simp
 |some n=>exact hx_lt h
end Tg.Ur
namespace Go.Proofs.YteeiipildjgdbaaGreatDoor
open Go.Lg Go.Tg
section
variable {H:LH} {b:UInt8} {s p:List UInt8}
theorem hexd_at {n:Nat} :at_ [48,49,50,51,52,53,54,55,56,57,65,66,67,68,69,70] (n:Int)=Tg.Ur.hd16 n:=by
 unfold at_ Tg.Ur.hd16;rw [Int.toNat_natCast];rfl
theorem conv3 {y z:UInt8} :lconv Tryz.prog 94 9 (sl H.n 3 3) (H.new ⟨[.int .u8 37,.int .u8 y.toNat,.int .u8 z.toNat],5,true⟩)=some (str [37,y,z]):=
 lconv_bs (e:=5) Tryz.underlying94 Tryz.underlying9 Tryz.underlying5 get_new (by simp) (by show lbs [bv 37,bv y,bv z]=_;exact lbs_map [37,y,z])
theorem escaped_cl (hs:s.length≤1048576):LC Tryz.prog EJ 264 [str s] H=some (.tuple #[str (Tg.Ur.escP s).1,.bool (Tg.Ur.escP s).2],H):=by
 refine LC_pure rfl Tryz.func264 rfl (by kernel_rfl) rfl ?_
 by_cases h3:s.length<3
 ·have q:=eq_true (show(s.length:Int)<3 by omega)
  have e:Tg.Ur.escP s=([],false):=by
   unfold Tg.Ur.escP
   split
   ·simp at h3;omega
   ·rfl
  simp [q,e]
 ·rcases s with _|⟨c,_|⟨x,_|⟨y,r⟩⟩⟩
  ·simp at h3
  ·simp at h3
  ·simp at h3
  ·have a0:at_ (c::x::y::r) 0=c:=rfl
   have a1:at_ (c::x::y::r) 1=x:=rfl
   have a2:at_ (c::x::y::r) 2=y:=rfl
   have q:=eq_false (show¬((c::x::y::r).length:Int)<3 by simp;omega)
   have q0:=eq_true (show(0:Int)<(r.length:Int)+1+1+1 by omega)
   have q1:=eq_true (show(1:Int)<(r.length:Int)+1+1+1 by omega)
   have q2:=eq_true (show(2:Int)<(r.length:Int)+1+1+1 by omega)
   have q3:=eq_false (show¬(r.length:Int)+1+1+1<3 by omega)
   by_cases hc:c=37
   ·subst hc
    have hl1:=Tg.Ur.hxD_lt x
    have hl2:=Tg.Ur.hxD_lt y
    have hh1:=fun H:LH=>hex_cl (H:=H) (b:=x)
    have hh2:=fun H:LH=>hex_cl (H:=H) (b:=y)
    have e:Tg.Ur.escP (37::x::y::r)=([37,Tg.Ur.hd16 ((Tg.Ur.hx x).getD 0),Tg.Ur.hd16 ((Tg.Ur.hx y).getD 0)],(Tg.Ur.hx x).isSome&&(Tg.Ur.hx y).isSome):=rfl
    rw [e]
    have g1:=hexd_at (n:=(Tg.Ur.hx x).getD 0)
    have g2:=hexd_at (n:=(Tg.Ur.hx y).getD 0)
    generalize (Tg.Ur.hx x).getD 0=n1 at*
    generalize (Tg.Ur.hx y).getD 0=n2 at*
    generalize (Tg.Ur.hx x).isSome=b1 at*
    generalize (Tg.Ur.hx y).isSome=b2 at*
    have q4:=eq_true (show(n1:Int)<16 by omega)
    have q5:=eq_true (show(n2:Int)<16 by omega)
    cases b1<;>simp [a0,a1,a2,q,q0,q1,q2,q3,hh1,hh2,g1,g2,q4,q5,conv3]
   ·have e:Tg.Ur.escP (c::x::y::r)=([],false):=by
     unfold Tg.Ur.escP
     split
     ·rename_i h;injection h with h;exact absurd h hc
     ·rfl
    simp [a0,q,q0,q3,hc,e]
theorem qt_esc {s e:List UInt8} (h:Tg.Ur.esc s=some e):Tg.Ur.qt s=e++Tg.Ur.qt (s.drop 3):=by
 cases s with
 |nil=>simp [Tg.Ur.esc]at h
 |cons b r=>rw [Tg.Ur.qt,h];rfl
theorem qt_byte {b:UInt8} {r:List UInt8} (h:Tg.Ur.esc (b::r)=none):Tg.Ur.qt (b::r)=(if Tg.Ur.okB b then [b]else Tg.Ur.pct b)++Tg.Ur.qt r:=by
 rw [Tg.Ur.qt,h]
theorem esc_len {s e:List UInt8} (h:Tg.Ur.esc s=some e):e.length=3∧3≤s.length:=by
 unfold Tg.Ur.esc at h
 split at h
 ·split at h
  ·injection h with h;subst h;simp
  ·cases h
 ·cases h
theorem Bld.new {N b:Nat} {l:List UInt8} {v:Value} {x:LB} (h:Bld N H b l v):Bld N (H.new x) b l v:=
 ⟨by obtain⟨p,hg,hp⟩:=h.get;exact⟨p,by rw [get_new_ne (by have:=h.lt;omega)];exact hg,hp⟩,h.row.keep (Nat.le_succ _) (fun k _ _ hk=>get_new_ne (by omega)),h.full,h.off,by rw [n_new];have:=h.lt;omega,by rw [n_new];have:=h.N;omega,h.nil⟩
theorem Bld.off_lt {N b k:Nat} {l:List UInt8} {v:Value} (h:Bld N H b l v) (hk:k<N):offRow v k:=by
 intro n c e
 rcases h.row.2 with⟨rfl,_⟩|⟨k',c',rest,rfl,g1,_⟩
 ·cases e
 ·injection e with e;injection e with e;injection e with e;omega
theorem Bld.first:Bld H.n (H.new ⟨[.pointer none,.slice none 0 0],96,true⟩) H.n [] (.slice none 0 0):=
 ⟨⟨_,get_new,.inl rfl⟩,RowN.nil,(by unfold Full;simp),(fun _ _ e=>by cases e),(by rw [n_new];omega),(by rw [n_new];omega),fun _=>rfl⟩
theorem wstr_k {N b:Nat} {l s:List UInt8} {v:Value} (h:Bld N H b l v) (hN:N≤b) (hlen:l.length+s.length≤maxElems):
  ∃v' H',LC Tryz.prog EJ 53 [ptr b 0,str s] H=some (.tuple #[.int .i64 s.length,.nilIface],H')∧Bld N H' b (l++s) v'∧ ∀k,k<N→H'.get k=H.get k:=by
 obtain⟨v',H',e,hb,hk⟩:=wstr_ex h hlen
 exact⟨v',H',e,hb,fun k hk2=>hk.keep k (by have:=h.lt;omega) (by omega) (h.off_lt hk2)⟩
theorem wbyte_k {N b:Nat} {l:List UInt8} {v:Value} {c:UInt8} (h:Bld N H b l v) (hN:N≤b) (hlen:l.length+1≤maxElems):
  ∃v' H',LC Tryz.prog EJ 108 [ptr b 0,.int .u8 c.toNat] H=some (.nilIface,H')∧Bld N H' b (l++ [c]) v'∧ ∀k,k<N→H'.get k=H.get k:=by
 obtain⟨v',H',e,hb,hk⟩:=wbyte_ex h hlen
 exact⟨v',H',e,hb,fun k hk2=>hk.keep k (by have:=h.lt;omega) (by omega) (h.off_lt hk2)⟩
theorem idx_lt (l:List UInt8) (c:UInt8):l.contains c=!decide (Lib.indexByte l c<0):=by
 induction l with
 |nil=>rfl
 |cons x l ih=>
  have hge:=Lib.indexByte_ge l c
  rw [List.contains_cons]
  unfold Lib.indexByte
  by_cases hx:x=c
  ·subst hx;simp
  ·have hx1:(x==c)=false:=by simp [hx]
   have hx2:(c==x)=false:=by simp;exact fun e=>hx e.symm
   rw [hx1,hx2,ih]
   simp only [Bool.false_or,Bool.false_eq_true,if_false]
   by_cases h1:Lib.indexByte l c= -1
   ·simp [h1]
   ·have:(Lib.indexByte l c== -1)=false:=by simp [h1]
    rw [this]
    simp only [Bool.false_eq_true,if_false]
    congr 2
    rw [eq_iff_iff];omega
theorem nibF: ∀k:Fin 256,(k.1:Int).fdiv (2^(min 4 8))=((k.1/16:Nat):Int)∧bAnd .u8 (k.1:Int) 15=((k.1%16:Nat):Int):=by decide+kernel
theorem nib (b:UInt8):(b.toNat:Int).fdiv 16=((b.toNat/16:Nat):Int)∧bAnd .u8 (b.toNat:Int) 15=((b.toNat%16:Nat):Int)∧b.toNat/16<16∧b.toNat%16<16:=by
 have hlt:=b.toNat_lt
 have:=nibF ⟨b.toNat,hlt⟩
 exact⟨this.1,this.2,by omega,by omega⟩
theorem quote_cl (hs:s.length≤300000):LC Tryz.prog EJ 231 [str s] H=some (str (Tg.Ur.qt s),H):=by
 refine LC_pure rfl Tryz.func231 rfl (by kernel_rfl) rfl ?_
 simp
 have hN:H.n≤H.n:=Nat.le_refl _
 refine loop_ind (fun(i:Nat) fr' H'=>fr' 0=str s∧fr' 3=ptr H.n 0∧fr' 4=.int .i64 i∧i≤s.length∧(∃l v,Bld H.n H' H.n l v∧Tg.Ur.qt s=l++Tg.Ur.qt (s.drop i)∧l.length≤3*i)∧ ∀k,k<H.n→H'.get k=H.get k) (fun i=>s.length-i) 0 ⟨by simp,by simp,by simp,Nat.zero_le _,⟨[],_,Bld.first,by simp,by simp⟩,fun k hk=>get_new_ne (by omega)⟩ ?_
 rintro i fr' H' ⟨h0,h3,h4,hi,⟨l,v,hb,hq,hl⟩,hle⟩ ih
 have hm:maxElems=maxElems:=rfl
 by_cases hlt:i<s.length
 ·have q0:=eq_true (show(i:Int)<(s.length:Int) by omega)
  have q1:=eq_true (show(i:Int)≤(s.length:Int) by omega)
  have hd:s.drop i=s[i]::s.drop (i+1):=List.drop_eq_getElem_cons hlt
  have hat:at_ s (i:Int)=s[i]:=at_in hlt
  have hes:=fun H:LH=>escaped_cl (H:=H) (s:=s.drop i) (by simp;omega)
  have heo:=Tg.Ur.esc_of (s.drop i)
  have hw1:IntKind.i64.wrap ((i:Int)+1)=((i+1:Nat):Int):=by rw [wrapI (by omega) (by omega)];omega
  have hw2:IntKind.i64.wrap ((i:Int)+2)=(i:Int)+2:=wrapI (by omega) (by omega)
  have hw3:IntKind.i64.wrap ((i:Int)+2+1)=(i:Int)+3:=by rw [wrapI (by omega) (by omega)];omega
  cases hok:(Tg.Ur.escP (s.drop i)).2 with
  |true=>
   rw [hok,if_pos rfl]at heo
   rw [qt_esc heo]at hq
   obtain⟨he1,he2⟩:=esc_len heo
   simp at he2
   rw [hok]at hes
   generalize (Tg.Ur.escP (s.drop i)).1=e at*
   obtain⟨v',H2,w1,w2,w3⟩:=wstr_k (s:=e) hb hN (by rw [he1];unfold maxElems;omega)
   simp [h0,h3,h4,q0,q1,hat,hes,w1,hw2,hw3]
   refine ih (i+3) _ _ (by omega) ⟨by simp [h0],by simp [h3],by simp [hw3],by omega,⟨l++e,v',w2,?_,by rw [List.length_append];omega⟩,fun k hk=>by rw [w3 k hk,hle k hk]⟩
   rw [hq,List.drop_drop,List.append_assoc]
  |false=>
   rw [hok,if_neg (by simp)]at heo
   rw [hok]at hes
   rw [hd]at heo
   rw [hd,qt_byte heo]at hq
   generalize s[i]=b at*
   have hxb:=fun H:LH=>indexByte_l (H:=H) (s:= [34,60,62,96]) (c:=b)
   have hmem:=idx_lt [34,60,62,96] b
   have hokb:Tg.Ur.okB b=(decide ((32:Int)<b.toNat)&&decide ((b.toNat:Int)≤126)&&decide (Lib.indexByte [34,60,62,96] b<0)):=by
    unfold Tg.Ur.okB;rw [hmem];simp
   generalize Lib.indexByte [34,60,62,96] b=ix at*
   cases hob:Tg.Ur.okB b with
   |true=>
    rw [hob]at hokb hq
    obtain⟨v',H2,w1,w2,w3⟩:=wbyte_k (c:=b) hb hN (by unfold maxElems;omega)
    have hokb:=hokb.symm
    rw [Bool.and_eq_true,Bool.and_eq_true,decide_eq_true_eq,decide_eq_true_eq,decide_eq_true_eq]at hokb
    obtain⟨⟨o1,o2⟩,o3⟩:=hokb
    simp [h0,h3,h4,q0,q1,hat,hes,hxb,o1,o2,o3,w1]
    refine ih (i+1) _ _ (by omega) ⟨by simp [h0],by simp [h3],by simp [hw1],by omega,⟨l++ [b],v',w2,?_,by rw [List.length_append];simp;omega⟩,fun k hk=>by rw [w3 k hk,hle k hk]⟩
    rw [hq,if_pos rfl,List.append_assoc]
   |false=>
    rw [hob]at hokb hq
    rw [if_neg (by simp)]at hq
    obtain⟨e1,e2,e3,e4⟩:=nib b
    have e1:(b.toNat:Int).fdiv (2^min 4 IntKind.u8.bits)=((b.toNat/16:Nat):Int):=e1
    have g1:=hexd_at (n:=b.toNat/16)
    have g2:=hexd_at (n:=b.toNat%16)
    obtain⟨v',H2,w1,w2,w3⟩:=wstr_k (s:=Tg.Ur.pct b) (hb.new (x:=⟨[.int .u8 37,.int .u8 (Tg.Ur.hd16 (b.toNat/16)).toNat,.int .u8 (Tg.Ur.hd16 (b.toNat%16)).toNat],5,true⟩)) hN (by show _+3≤_;unfold maxElems;omega)
    have hfin:=fun fr2 (f0:fr2 0=str s) (f3:fr2 3=ptr H.n 0) (f4:fr2 4=.int .i64 ((i+1:Nat):Int))=>ih (i+1) fr2 H2 (by omega) ⟨f0,f3,f4,by omega,⟨l++Tg.Ur.pct b,v',w2,by rw [hq,List.append_assoc],by rw [List.length_append];show _+3≤_;omega⟩,fun k hk=>by rw [w3 k hk,get_new_ne (by have:=hb.lt;omega),hle k hk]⟩
    unfold Tg.Ur.pct at w1
    have q5:=eq_true (show((b.toNat/16:Nat):Int)<16 by omega)
    have q6:=eq_true (show((b.toNat%16:Nat):Int)<16 by omega)
    clear ih w2 w3 hq
    generalize b.toNat/16=n1 at*
    generalize b.toNat%16=n2 at*
    have hw: ∀n:Nat,n<16→IntKind.u8.wrap (n:Int)=(n:Int):=fun n h=>by rw [wrap8];omega
    have hwa:=hw n1 e3
    have hwb:=hw n2 e4
    by_cases o1:(32:Int)<b.toNat
    ·by_cases o2:(b.toNat:Int)≤126
     ·have o3: ¬ix<0:=by
       intro h;rw [decide_eq_true o1,decide_eq_true o2,decide_eq_true h]at hokb;cases hokb
      have o3:=eq_false o3
      simp [h0,h3,h4,q0,q1,hat,hes,hxb,o1,o2,o3,e1,e2,g1,g2,q5,q6,hwa,hwb,conv3,w1]
      refine hfin _ ?_ ?_ ?_
      all_goals simp [h0,h3,hw1]
     ·have o2:=eq_false o2
      simp [h0,h3,h4,q0,q1,hat,hes,hxb,o1,o2,e1,e2,g1,g2,q5,q6,hwa,hwb,conv3,w1]
      refine hfin _ ?_ ?_ ?_
      all_goals simp [h0,h3,hw1]
    ·have o1:=eq_false o1
     simp [h0,h3,h4,q0,q1,hat,hes,hxb,o1,e1,e2,g1,g2,q5,q6,hwa,hwb,conv3,w1]
     refine hfin _ ?_ ?_ ?_
     all_goals simp [h0,h3,hw1]
 ·have q0:=eq_false (show¬(i:Int)<(s.length:Int) by omega)
  rw [List.drop_of_length_le (by omega),show Tg.Ur.qt []= [] by rw [Tg.Ur.qt],List.append_nil]at hq
  obtain⟨H2,b1,b2,b3⟩:=bstr_ex hb (by unfold maxLen;omega)
  simp [h0,h3,h4,q0,b1,hq]
  exact⟨by have:=hb.lt;omega,fun k hk=>by rw [b3 k hk,hle k hk]⟩
end
end Go.Proofs.YteeiipildjgdbaaGreatDoor
